/- Lemmas for the proof, no statement of the seat; no conditions. -/
import Derived.Test.YtbdklnphnibfiaaDoorLayAK
import Derived.Sort.Walk0
import Derived.Test.YtbdklnphnibfiaaDoorProg
import Derived.Shelf.Small.Strs
set_option linter.unusedSimpArgs false
set_option linter.unusedVariables false
set_option linter.unnecessarySimpa false
set_option maxRecDepth 100000
section
namespace Go.Av.F
open Go Go.Av
open Go.Proofs Go.Proofs.Tryd
attribute [-simp] getU hdS canon qae i64w
attribute [local simp] tt3 tt4 tt9 tt5 tt94 tt33 tt31 tt64 tt62
def okPrev (bs:List BS) (i:Nat) (s:BS):Bool:=i == 0 || (match bs[i-1]? with
 | some q=>Op.bytesLess q.name s.name
 | none=>true)
def okAt (bs:List BS) (i:Nat) (s:BS):Bool:=nameB s.name && okPrev bs i s && decide (1≤s.kind) && decide (s.kind≤2) && s.bl.all (fun t=>decide (t.length≤24))
def okAll (bs:List BS):Bool:=(List.range bs.length).all fun i=>match bs[i]? with
 | some s=>okAt bs i s
 | none=>true
def qat (bs:List BS):Bool:=decide (bs.length≤6) && okAll bs && bs.all (roots bs (bs.length+1))
theorem okAll_bad (bs:List BS) (i:Nat) (s:BS) (h:bs[i]?=some s) (hb:okAt bs i s=false):okAll bs=false:=by
 unfold okAll
 rw[List.all_eq_false]
 have:=(List.getElem?_eq_some_iff.1 h).1
 exact⟨i,by simpa using this,by simp[h,hb]⟩
theorem row3j (b:BS) (j:Nat):(BS.row b)[3+j]?=b.bl[j]?.map .str:=by
 rw[show 3+j=j+1+1+1 by omega];simp[BS.row]
attribute [simp] row3j
theorem bytesLess_leq (a b:List UInt8):(Op.bytesLess a b || a == b)=!Op.bytesLess b a:=by
 simp only[Go.Proofs.bytesLess_eq]
 rcases Std.lt_trichotomy a b with h | h | h
 ·have:¬ b<a:=fun h'=>Std.lt_irrefl (Std.lt_trans h h')
  simp[h,this]
 ·subst h;simp[Std.lt_irrefl]
 ·have:¬ a<b:=fun h'=>Std.lt_irrefl (Std.lt_trans h h')
  have h2:a≠b:=by rintro rfl;exact Std.lt_irrefl h
  simp[h,this,h2]
def short (t:List UInt8):Bool:=decide (t.length≤24)
theorem inner18 {Q:Exit→S→Prop} (bs:List BS) (s:BS) (i:Nat) (h8:s.bl.length=8) {st:S} {ob1:Ob}
  (h0:∃ φ,qae ⟨78,[]⟩ φ st∧canon [] [1,3,4,5] φ st=⟨mkT [(1,.ptr 1 0 0),(3,.int .i64 i),(4,.ptr 4 0 0),(5,.int .i64 0)],hpOf [(1,ob1),(4,⟨11,[BS.row s]⟩)],Us.of [1,4]⟩)
  (hr1:∀ ρ,renOb ρ ob1=ob1)
  (hret:∀ st:S,s.bl.all short=false→st.t 2=.bool false→Q .ret st)
  (hex:∀ st:S,s.bl.all short=true→st.t 1=.ptr 1 0 0→st.t 3=.int .i64 i→st.h=hpOf [(1,ob1),(4,⟨11,[BS.row s]⟩)]→st.u=Us.of [1,4]→Q (.exit 2) st) :
  ev Go.Proofs.Tryd.prog ⟨78,[]⟩ (.loop ac15_l1) Q st:=by
 refine qba (X:=Nat) [1,3,4,5] (fun j=>⟨mkT [(1,.ptr 1 0 0),(3,.int .i64 i),(4,.ptr 4 0 0),(5,.int .i64 j)],hpOf [(1,ob1),(4,⟨11,[BS.row s]⟩)],Us.of [1,4]⟩) (fun j=>8-j)
  (fun j=>j≤8∧(s.bl.take j).all short=true) 0 ⟨by simp,h0⟩ ?_
 rintro j ⟨hj,ha⟩
 by_cases h1:j<8
 ·obtain⟨x,e0⟩:∃ x,s.bl[j]'(by omega)=x:=⟨_,rfl⟩
  have e1:s.bl[j]?=some x:=by rw[← e0];exact List.getElem?_eq_getElem (by omega)
  have e2:IntKind.i64.wrap ((j:Int)+1)=((j+1:Nat):Int):=by rw[qao _ (by omega)];omega
  have h1':j<s.bl.length:=by omega
  have h1'':(j:Int)<8:=by omega
  simp[ac15_l1,h1,h1',h1'',e0,e1,e2,h8]
  refine⟨by omega,fun h=>hret _ ?_ rfl,fun h=>?_⟩
  ·rw[List.all_eq_false];exact⟨x,List.mem_of_getElem? e1,by simp[short];omega⟩
  ·refine qax (j+1) (by omega) ⟨by omega,?_⟩ [(1,1),(4,4)] (by simp[qae]) (by simp[canon,obOf,hr1])
   have h2:=all_take_succ short s.bl j x e1
   rw[ha,show short x=true by simp[short];omega]at h2
   simpa using h2
 ·have:j=8:=by omega
  subst this
  rw[List.take_of_length_le (by omega)]at ha
  simp[ac15_l1]
  exact hex _ ha rfl rfl rfl rfl
theorem loop18b {Q:Exit→S→Prop} (bs:List BS) (hl:bs.length<2000000) (hB:∀ b∈bs,b.bl.length=8) {st:S}
  (h0:∃ φ,qae ⟨78,[]⟩ φ st∧canon [] [1,6] φ st=⟨mkT [(1,.ptr 1 0 0),(6,.int .i64 0)],hpOf [(1,⟨1,[[.lst 11 (bs.map BS.row)]]⟩)],Us.of [1]⟩)
  (hret:∀ st:S,bs.all (roots bs (bs.length+1))=false→st.t 2=.bool false→Q .ret st)
  (hex:∀ st:S,bs.all (roots bs (bs.length+1))=true→Q (.exit 4) st):ev Go.Proofs.Tryd.prog ⟨78,[]⟩ (.loop ac15_l2) Q st:=by
 refine qba (X:=Nat) [1,6] (fun j=>⟨mkT [(1,.ptr 1 0 0),(6,.int .i64 j)],hpOf [(1,⟨1,[[.lst 11 (bs.map BS.row)]]⟩)],Us.of [1]⟩) (fun j=>bs.length-j)
  (fun j=>j≤bs.length∧(bs.take j).all (roots bs (bs.length+1))=true) 0 ⟨by simp,h0⟩ ?_
 rintro j ⟨hj,ha⟩
 by_cases h1:j<bs.length
 ·obtain⟨x,e0⟩:∃ x,bs[j]=x:=⟨_,rfl⟩
  have e1:bs[j]?=some x:=by rw[← e0];exact List.getElem?_eq_getElem (by omega)
  have e2:IntKind.i64.wrap ((j:Int)+1)=((j+1:Nat):Int):=by rw[qao _ (by omega)];omega
  have hx:=hB x (List.mem_of_getElem? e1)
  simp[ac15_l2,h1,e0,e1,qag _ hx,qbm _ hx]
  refine qaj (by kernel_rfl) (rootsC bs x hl hB hx) (by simp[bk]) (by simp) ?_
  cases hr:roots bs (bs.length+1) x with
  | false =>
   simp
   exact hret _ (by rw[List.all_eq_false];exact⟨x,List.mem_of_getElem? e1,by simp[hr]⟩) rfl
  | true =>
   simp[e2]
   refine qax (j+1) (by omega) ⟨by omega,?_⟩ [(1,1)] (by simp[qae]) (by simp[canon,obOf])
   have h2:=all_take_succ (roots bs (bs.length+1)) bs j x e1
   rw[ha,hr]at h2
   simpa using h2
 ·have:j=bs.length:=by omega
  subst this
  rw[List.take_length]at ha
  simp[ac15_l2]
  exact hex _ ha
theorem bookOkC (bs:List BS) (hl:bs.length<2000000) (hB:∀ b∈bs,b.bl.length=8) (hs:∀ b∈bs,b.name.length<1000000000):ACall Go.Proofs.Tryd.prog 15 [bk bs] [] (fun r L'=>r=.bool (qat bs)∧L'=[]):=by
 obtain⟨res,hres⟩:∃ res,qat bs=res:=⟨_,rfl⟩
 rw[hres]
 by_cases h0:bs.length≤6
 ·have h0':¬ (6:Int)<bs.length:=by omega
  have h0'':(bs.length:Int)≤6:=by omega
  apply vc15 (by simp) (by simp)
  simp[ac15,bk,h0',h0'']
  refine qba (X:=Nat) [1,3] (fun i=>⟨mkT [(1,.ptr 1 0 0),(3,.int .i64 i)],hpOf [(1,⟨1,[[.lst 11 (bs.map BS.row)]]⟩)],Us.of [1]⟩) (fun i=>bs.length-i)
   (fun i=>i≤bs.length∧∀ j,j<i→∀ s,bs[j]?=some s→okAt bs j s=true) 0 ⟨by simp,[(1,1)],by simp[qae],by simp[canon,obOf]⟩ ?_
  rintro i ⟨hi,ha⟩
  by_cases h1:i<bs.length
  ·obtain⟨s,e0⟩:∃ s,bs[i]=s:=⟨_,rfl⟩
   have e1:bs[i]?=some s:=by rw[← e0];exact List.getElem?_eq_getElem h1
   have hsm:s∈bs:=List.mem_of_getElem? e1
   have e2:IntKind.i64.wrap ((i:Int)+1)=((i+1:Nat):Int):=by rw[qao _ (by omega)];omega
   have hbad:okAt bs i s=false→res=false:=fun h=>by rw[← hres,qat,okAll_bad bs i s e1 h];simp
   simp[ac15_l0,h1,e0,e1,qag _ (hB s hsm),qbm _ (hB s hsm)]
   refine⟨row_all s,qaj (by kernel_rfl) (bookName s.name (by have:=hs s hsm;omega)) (by simp) (by simp) ?_⟩
   cases hn:nameB s.name with
   | false=>simp[hbad (by simp[okAt,hn])]
   | true =>
    have hpv:okPrev bs i s=false→res=false:=fun h=>hbad (by simp[okAt,h])
    have next:okAt bs i s=true→∀ j,j<i+1→∀ s,bs[j]?=some s→okAt bs j s=true:=fun hok j hj y hy=>by
     by_cases hji:j=i
     ·subst hji;rw[e1]at hy;injection hy with hy;subst hy;exact hok
     ·exact ha j (by omega) y hy
    have fin:∀ (h:okPrev bs i s=true) (h1:1≤s.kind) (h2:s.kind≤2),s.bl.all short=true→okAt bs i s=true:=fun h h1 h2 h3=>by
     have h4:(s.bl.all fun t=>decide (t.length≤24))=true:=h3
     simp[okAt,hn,h,h1,h2,h4]
    have finF:s.bl.all short=false→okAt bs i s=false:=fun h3=>by
     have h4:(s.bl.all fun t=>decide (t.length≤24))=false:=h3
     simp[okAt,h4]
    have hk1:s.kind<1→res=false:=fun h=>hbad (by simp[okAt,show ¬ 1≤s.kind by omega])
    have hk2:2<s.kind→res=false:=fun h=>hbad (by simp[okAt,show ¬ s.kind≤2 by omega])
    by_cases hi0:i=0
    ·subst hi0
     simp
     refine⟨fun g1=>⟨hk2,fun g2=>inner18 bs s 0 (hB s hsm) (ob1:=⟨1,[[.lst 11 (bs.map BS.row)]]⟩) ⟨[(1,1),(4,4)],by simp[qae],by simp[canon,obOf]⟩ (by simp) (fun st g3 g4=>?_) (fun st g3 t1 t3 th tu=>?_)⟩,fun g1=>hk1 (by omega)⟩
     ·simp[g4,hbad (finF g3)]
     ·simp[t1,t3,show IntKind.i64.wrap 1=1 from rfl]
      exact qax 1 (by omega) ⟨by omega,next (fin (by simp[okPrev]) g1 g2 g3)⟩ [(1,1)] (by simp[qae,th]) (by simp[canon,obOf,th,t1])
    ·obtain⟨m,hm⟩:∃ m,i=m+1:=⟨i-1,by omega⟩
     subst hm
     obtain⟨q,q0⟩:∃ q,bs[m]=q:=⟨_,rfl⟩
     have q1:bs[m]?=some q:=by rw[← q0];exact List.getElem?_eq_getElem (by omega)
     have q2:IntKind.i64.wrap (m:Int)=(m:Int):=by rw[qao _ (by omega)]
     have q3:m<bs.length:=by omega
     have q4:=qag q (hB q (List.mem_of_getElem? q1))
     cases hq:Op.bytesLess q.name s.name with
     | false =>
      have hrf:res=false:=hpv (by simp[okPrev,q1,hq])
      have:(Op.bytesLess s.name q.name || s.name == q.name)=true:=by rw[bytesLess_leq,hq];rfl
      simp[q0,q1,q2,q3,this,hrf,q4]
     | true =>
      have:(Op.bytesLess s.name q.name || s.name == q.name)=false:=by rw[bytesLess_leq,hq];rfl
      simp[q0,q1,q2,q3,this,q4]
      refine⟨fun g1=>⟨hk2,fun g2=>inner18 bs s (m+1) (hB s hsm) (ob1:=⟨1,[[.lst 11 (bs.map BS.row)]]⟩) ⟨[(1,1),(4,4)],by simp[qae],by simp[canon,obOf]⟩ (by simp) (fun st g3 g4=>?_) (fun st g3 t1 t3 th tu=>?_)⟩,fun g1=>hk1 (by omega)⟩
      ·simp[g4,hbad (finF g3)]
      ·have e2':IntKind.i64.wrap ((m:Int)+1+1)=(m:Int)+1+1:=qao _ (by omega)
       simp[t1,t3,e2']
       exact qax (m+1+1) (by omega) ⟨by omega,next (fin (by simp[okPrev,q1,hq]) g1 g2 g3)⟩ [(1,1)] (by simp[qae,th]) (by simp[canon,obOf,th,t1])
  ·have hie:i=bs.length:=by omega
   subst hie
   have hok:okAll bs=true:=by
    unfold okAll
    rw[List.all_eq_true]
    intro j hj
    have hj':j<bs.length:=by simpa using hj
    have hx:bs[j]?=some bs[j]:=List.getElem?_eq_getElem hj'
    rw[hx];exact ha j hj' _ hx
   simp[ac15_l0]
   refine loop18b bs hl hB ⟨[(1,1)],by simp[qae],by simp[canon,obOf]⟩ (fun st g1 g2=>?_) (fun st g1=>?_)
   ·have:res=false:=by rw[← hres];simp[qat,g1]
    simp[g2,this]
   ·have:res=true:=by
     rw[← hres]
     simp only[qat,g1,hok,Bool.and_true,decide_eq_true_eq];exact h0
    simp[this]
 ·have:res=false:=by rw[← hres];simp[qat,h0]
  have h0':(6:Int)<bs.length:=by omega
  apply vc15 (by simp) (by simp)
  simp[ac15,bk,h0',this]
end Go.Av.F
end
section
namespace Go.Av.F
open Go Go.Av
open Go.Proofs Go.Proofs.Tryd
attribute [-simp] getU hdS canon qae i64w
attribute [local simp] tt3 tt4 tt9 tt5 tt94 tt33 tt31 tt64 tt62
def bkOb (bs:List BS):Ob:=⟨11,bs.map BS.row⟩
@[simp] theorem bkOb_sz (bs:List BS):(bkOb bs).sz=11:=rfl
@[simp] theorem bkOb_els (bs:List BS):(bkOb bs).els=bs.map BS.row:=rfl
theorem clR_bk (bs:List BS):clR (bs.map BS.row)=true:=by simp[clR]
attribute [simp] clR_bk
@[simp] theorem bkOb_ren (ρ:Nat→Option Plc) (bs:List BS):renOb ρ (bkOb bs)=bkOb bs:=by
 simp[renOb,bkOb]
theorem bk_take (bs:List BS):(bs.map BS.row).take bs.length=bs.map BS.row:=List.take_of_length_le (by simp)
attribute [simp] bk_take
theorem bk_all1 (bs:List BS):∀ r∈bs.map BS.row,r.all oneA=true:=by
 intro r hr
 obtain⟨b,_,rfl⟩:=List.mem_map.1 hr
 exact row_one b
theorem copyC (bs:List BS) (hl:bs.length<2000000):ACall Go.Proofs.Tryd.prog 33 [bk bs] [] (fun r L'=>r=.agg [.sl 6 0 bs.length]∧L'=[(6,bkOb bs)]):=by
 refine acx func33 [] ntmps33 rfl rfl rfl ?_
 simp[bk]
 exact⟨⟨by omega,fun b _ x hx=>row_all b x hx⟩,rfl⟩
def newB (bs:List BS) (s:BS):List BS×Int :=
 if nameB s.name=false then (bs,5) else if atB bs s.name=true then (bs,2) else if bs.length=6 then (bs,4) else (bs.take (atP bs s.name)++s::bs.drop (atP bs s.name),0)
def bkR (x:Nat) (res:List BS×Int) (r:AV) (L':List (Nat×Ob)):Prop:=∃ id,(id=1000∨id=x)∧r=.tup [.agg [.sl id 0 res.1.length],.int .i64 res.2]∧L'=[(id,bkOb res.1)]
theorem newC (bs:List BS) (s:BS) (hl:bs.length<2000000) (hB:∀ b∈bs,b.bl.length=8) (hs:s.bl.length=8) (hn:s.name.length<1000000000) :
  ACall Go.Proofs.Tryd.prog 63 [.agg [.sl 1000 0 bs.length],.agg (BS.row s)] [(1000,bkOb bs)] (bkR 45 (newB bs s)):=by
 refine acx func63 [(9,[zI 0,zJ 1 [2] [],zJ 2 [] [2],zJ 3 [1000] [],zJ 4 [3] [2,1000],zJ 7 [] [2,1000,3],zJ 5 [] [2,1000],zI 6,zI 8,zI 9,zI 10])] ntmps63 rfl rfl rfl ?_
 simp[qag _ hs]
 refine qcc (by kernel_rfl) (atC bs s.name hl) (by simp[bk]) (by simp) (by simp) ?_
 simp
 refine qaj (by kernel_rfl) (bookName s.name (by omega)) (by simp) (by simp) ?_
 cases h1:nameB s.name with
 | false =>
  simp
  exact⟨[(1000,bkOb bs)],by simp,1000,.inl rfl,by simp[newB,h1],by simp[newB,h1]⟩
 | true =>
  cases h2:atB bs s.name with
  | true =>
   simp
   exact⟨[(1000,bkOb bs)],by simp,1000,.inl rfl,by simp[newB,h1,h2],by simp[newB,h1,h2]⟩
  | false =>
   by_cases h3:bs.length=6
   ·have h3':(bs.length:Int)=6:=by omega
    simp[h3]
    exact⟨[(1000,bkOb bs)],by simp,1000,.inl rfl,by simp[newB,h1,h2,h3],by simp[newB,h1,h2,h3]⟩
   ·have h3':¬ (bs.length:Int)=6:=by omega
    have hk:atP bs s.name≤bs.length:=by unfold atP;exact(List.takeWhile_sublist _).length_le
    obtain⟨k,hk0⟩:∃ k,atP bs s.name=k:=⟨_,rfl⟩
    rw[hk0]at hk
    simp[h3,h3',hk0,qag _ hs,qbm _ hs]
    have e1:(bs.drop k).take (bs.length-k)=bs.drop k:=List.take_of_length_le (by simp)
    have e2:List.take (bs.length-k) (List.drop k (List.map BS.row bs))=(bs.drop k).map BS.row:=by
     rw[← List.map_drop,← List.map_take,e1]
    have e3:List.take (bs.length-k) ((bs.drop k).map BS.row)=(bs.drop k).map BS.row:=List.take_of_length_le (by simp)
    have e4:List.take k (List.map BS.row bs)=(bs.take k).map BS.row:=by rw[List.map_take]
    have e5:newB bs s=(bs.take k++s::bs.drop k,0):=by simp[newB,h1,h2,h3,hk0]
    have hall:∀ (l:List BS) (x:List AV),x∈l.map BS.row→∀ y,y∈x→oneA y=true:=fun l x hx y hy=>List.all_eq_true.1 (bk_all1 l x hx) y hy
    have hlen:(bs.take k++s::bs.drop k).length=k+1+(bs.length-k):=by simp;omega
    rw[e2,e3,e4,e5]
    refine⟨hk,⟨by omega,by omega,hall _⟩,hk,⟨hk,by omega,row_all s⟩,⟨by omega,by omega,hall _⟩,[(45,bkOb (bs.take k++s::bs.drop k))],?_,45,.inr rfl,by simp[hlen],rfl⟩
    have e6:(List.take (k+1) ((bs.take k).map BS.row++[BS.row s]))=(bs.take k).map BS.row++[BS.row s]:=List.take_of_length_le (by simp;omega)
    rw[← e4]at e6
    simp[bkOb,e6]
end Go.Av.F
end
section
namespace Go.Av.F
open Go Go.Av
open Go.Proofs Go.Proofs.Tryd
attribute [-simp] getU hdS canon qae i64w
attribute [local simp] tt3 tt4 tt9 tt5 tt94 tt33 tt31 tt64 tt62 tt53
def killB (bs:List BS) (k:Nat):List BS×Int :=
 match bs[k]? with
 | some t=>if bs.any (fun b=>b.frm == t.name)=true then (bs,6) else (bs.take k++bs.drop (k+1),0)
 | none=>(bs,6)
theorem killC (bs:List BS) (k:Nat) (t:BS) (hl:bs.length<2000000) (hB:∀ b∈bs,b.bl.length=8) (hk:bs[k]?=some t) :
  ACall Go.Proofs.Tryd.prog 64 [.agg [.sl 1000 0 bs.length],.int .i64 k] [(1000,bkOb bs)] (bkR 39 (killB bs k)):=by
 have hkl:=(List.getElem?_eq_some_iff.1 hk).1
 have hk0:bs[k]=t:=(List.getElem?_eq_some_iff.1 hk).2
 have ht:=hB t (List.mem_of_getElem? hk)
 refine acx func64 [(4,[zI 0,zJ 1 [2,1000] [],zJ 2 [] [2,1000],zJ 3 [1000] [],zI 4,zJ 5 [1000] [],zJ 6 [] [2,1000],zJ 7 [2,1000] [2,1000],zJ 8 [] [2,1000],zJ 9 [1000] [2,1000],zJ 10 [] [2,1000],zJ 11 [1000] [2,1000],zI 12]),(6,[zI 1,zJ 2 [2] [],zJ 3 [] [2],zJ 4 [1000] [],zJ 6 [] [2,1000],zJ 7 [2] [2,1000],zJ 8 [] [2,1000],zJ 9 [] [2,1000],zJ 10 [1000] [2,1000],zJ 0 [] [2,1000],zJ 5 [] [2,1000],zI 11,zI 12,zI 13])] ntmps64 rfl rfl rfl ?_
 simp
 refine qba (X:=Nat) [1,2,4,5,6] (fun i=>⟨mkT [(1,.int .i64 k),(2,.ptr 2 0 0),(4,.ptr 4 0 0),(5,.int .i64 0),(6,.int .i64 i)],hpOf [(1000,bkOb bs),(2,⟨1,[[.sl 1000 0 bs.length]]⟩),(4,⟨1,[[.nils]]⟩)],Us.of [1000,1000,2,4]⟩) (fun i=>bs.length-i)
  (fun i=>i≤bs.length∧(bs.take i).any (fun b=>b.frm == t.name)=false) 0 ⟨by simp,[(1000,1000),(2,2),(4,4)],by simp[qae],by simp[canon,obOf]⟩ ?_
 rintro i ⟨hi,ha⟩
 by_cases h1:i<bs.length
 ·obtain⟨s,e0⟩:∃ s,bs[i]=s:=⟨_,rfl⟩
  have e1:bs[i]?=some s:=by rw[← e0];exact List.getElem?_eq_getElem (by omega)
  have e2:IntKind.i64.wrap ((i:Int)+1)=((i+1:Nat):Int):=by rw[qao _ (by omega)];omega
  have hs:=hB s (List.mem_of_getElem? e1)
  cases h2:s.frm == t.name with
  | true =>
   have h3:bs.any (fun b=>b.frm == t.name)=true:=by rw[List.any_eq_true];exact⟨s,List.mem_of_getElem? e1,h2⟩
   simp[h1,e0,e1,e2,qag _ hs,qag _ ht,hk,hk0,hkl,h2]
   have h3':bs.any (fun b=>b.frm == t.name)=true:=h3
   exact⟨[(1000,bkOb bs)],by simp,1000,.inl rfl,by simp only[killB,hk,h3',if_true],by simp only[killB,hk,h3',if_true]⟩
  | false =>
   simp[h1,e0,e1,e2,qag _ hs,qag _ ht,hk,hk0,hkl,h2]
   refine qax (i+1) (by omega) ⟨by omega,?_⟩ [(1000,1000),(2,2),(4,4)] (by simp[qae]) (by simp[canon,obOf])
   have h4:(bs.take (i+1)).any (fun b=>b.frm == t.name)=false:=by
    rw[List.take_add_one,e1];simp only[List.any_append,ha,Option.toList_some,List.any_cons,h2,List.any_nil,Bool.or_self]
   simpa using h4
 ·have:i=bs.length:=by omega
  subst this
  rw[List.take_length]at ha
  have e3:IntKind.i64.wrap ((k:Int)+1)=((k+1:Nat):Int):=by rw[qao _ (by omega)];omega
  have hall:∀ (l:List BS) (x:List AV),x∈l.map BS.row→∀ y,y∈x→oneA y=true:=fun l x hx y hy=>List.all_eq_true.1 (bk_all1 l x hx) y hy
  have f1:List.take k (List.map BS.row bs)=(bs.take k).map BS.row:=by rw[List.map_take]
  have f2:List.take (bs.length-(k+1)) (List.drop (k+1) (List.map BS.row bs))=(bs.drop (k+1)).map BS.row:=by
   rw[← List.map_drop];exact List.take_of_length_le (by simp)
  have f3:killB bs k=(bs.take k++bs.drop (k+1),0):=by simp only[killB,hk,ha];simp
  simp[e3]
  rw[f1,f2,f3]
  refine⟨by omega,⟨by omega,by omega⟩,⟨by omega,by omega,hall _⟩,⟨by omega,by omega,hall _⟩,[(39,bkOb (bs.take k++bs.drop (k+1)))],?_,39,.inr rfl,by simp,rfl⟩
  simp[bkOb]
  exact List.take_of_length_le (by simp)
structure BO where
 kind:Int
 a:List UInt8
 b:List UInt8
 i:Int
 text:List UInt8
deriving DecidableEq,Inhabited
def BO.row (o:BO):List AV:=[.int .i64 o.kind,.str o.a,.str o.b,.int .i64 o.i,.str o.text]
def putB (bs:List BS) (k:Nat) (o:BO):List BS×Int :=
 match bs[k]? with
 | some t=>if o.i<0∨8≤o.i∨24<o.text.length then (bs,5) else if t.kind≠1 then (bs,3) else (bs.set k { t with bl:=t.bl.set o.i.toNat o.text },0)
 | none=>(bs,5)
theorem row_set (t:BS) (j:Nat) (x:List UInt8) (h:j<t.bl.length):List.take (3+j) t.row++AV.str x::List.drop (3+j+1) t.row=BS.row { t with bl:=t.bl.set j x }:=by
 have e1:List.take (3+j) t.row=AV.str t.name::AV.int .i64 t.kind::AV.str t.frm::(t.bl.take j).map .str:=by
  rw[show 3+j=j+1+1+1 by omega];simp[BS.row]
 have e2:List.drop (3+j+1) t.row=(t.bl.drop (j+1)).map .str:=by
  rw[show 3+j+1=j+1+1+1+1 by omega];simp[BS.row]
 rw[e1,e2]
 simp only[BS.row,List.set_eq_take_append_cons_drop,h,if_true,List.map_append,List.map_cons,List.cons_append]
theorem putC (bs:List BS) (k:Nat) (t:BS) (o:BO) (hl:bs.length<2000000) (hB:∀ b∈bs,b.bl.length=8) (hk:bs[k]?=some t) :
  ACall Go.Proofs.Tryd.prog 65 [.agg [.sl 1000 0 bs.length],.int .i64 k,.agg (BO.row o)] [(1000,bkOb bs)] (bkR 1000 (putB bs k o)):=by
 have hkl:=(List.getElem?_eq_some_iff.1 hk).1
 have hk0:bs[k]=t:=(List.getElem?_eq_some_iff.1 hk).2
 have ht:=hB t (List.mem_of_getElem? hk)
 refine acx func65 [(5,[zI 0,zJ 1 [3] [],zJ 2 [] [3],zJ 3 [] [3],zJ 4 [5] [3],zJ 5 [] [3,5],zJ 6 [5] [3,5],zJ 7 [1000] [5],zJ 8 [] [5],zI 9,zI 10])] ntmps65 rfl rfl rfl ?_
 by_cases g1:o.i<0
 ·simp[BO.row,g1]
  exact⟨[(1000,bkOb bs)],by simp,1000,.inl rfl,by simp[putB,hk,g1],by simp[putB,hk,g1]⟩
 by_cases g2:8≤o.i
 ·simp[BO.row,g1,g2]
  exact⟨[(1000,bkOb bs)],by simp,1000,.inl rfl,by simp[putB,hk,g1,g2],by simp[putB,hk,g1,g2]⟩
 by_cases g3:24<o.text.length
 ·have g3':(24:Int)<o.text.length:=by omega
  simp[BO.row,g1,g2,g3,g3']
  exact⟨[(1000,bkOb bs)],by simp,1000,.inl rfl,by simp[putB,hk,g1,g2,g3],by simp[putB,hk,g1,g2,g3]⟩
 have g3':¬ (24:Int)<o.text.length:=by omega
 by_cases g4:t.kind=1
 ·simp[BO.row,g1,g2,g3,g3',hk,hkl,hk0,g4,qag _ ht]
  have f1:putB bs k o=(bs.set k { t with bl:=t.bl.set o.i.toNat o.text },0):=by simp[putB,hk,g1,g2,g3,g4]
  rw[f1,row_set t o.i.toNat o.text (by omega)]
  refine⟨⟨by omega,by omega⟩,by omega,[(1000,bkOb (bs.set k { t with bl:=t.bl.set o.i.toNat o.text }))],?_,1000,.inl rfl,by simp,rfl⟩
  simp[bkOb,List.map_set]
 ·simp[BO.row,g1,g2,g3,g3',hk,hkl,hk0,g4,qag _ ht]
  exact⟨[(1000,bkOb bs)],by simp,1000,.inl rfl,by simp[putB,hk,g1,g2,g3,g4],by simp[putB,hk,g1,g2,g3,g4]⟩
end Go.Av.F
end
section
namespace Go.Av.F
open Go Go.Av
open Go.Proofs Go.Proofs.Tryd
attribute [-simp] getU hdS canon qae i64w
attribute [local simp] tt3 tt4 tt9 tt5 tt94 tt33 tt31 tt64 tt62 tt53
def backB (bs:List BS) (k:Nat) (name:List UInt8):List BS×Int :=
 match bs[k]? with
 | some t=>if atB bs name=false then (bs,1) else match bs[atP bs name]? with
  | some u=>if t.kind≠1∨u.kind≠2∨u.frm≠t.name then (bs,3) else (bs.set k { t with bl:=u.bl },0)
  | none=>(bs,1)
 | none=>(bs,1)
theorem atB_some {bs:List BS} {name:List UInt8} (h:atB bs name=true):∃ u,bs[atP bs name]?=some u∧u.name=name:=by
 unfold atB at h
 split at h
 ·rename_i u hu;exact⟨u,hu,by simpa using h⟩
 ·cases h
theorem row_blk (t u:BS) (ht:t.bl.length=8) (hu:u.bl.length=8):List.take 3 t.row++u.bl.map .str=BS.row { t with bl:=u.bl }:=by
 simp[BS.row]
theorem backC (bs:List BS) (k:Nat) (t:BS) (name:List UInt8) (hl:bs.length<2000000) (hB:∀ b∈bs,b.bl.length=8) (hk:bs[k]?=some t) :
  ACall Go.Proofs.Tryd.prog 66 [.agg [.sl 1000 0 bs.length],.int .i64 k,.str name] [(1000,bkOb bs)] (bkR 1000 (backB bs k name)):=by
 have hkl:=(List.getElem?_eq_some_iff.1 hk).1
 have hk0:bs[k]=t:=(List.getElem?_eq_some_iff.1 hk).2
 have ht:=hB t (List.mem_of_getElem? hk)
 refine acx func66 [(4,[zI 0,zJ 1 [3,1000] [],zJ 2 [] [3,1000],zJ 3 [1000] [],zI 4,zJ 5 [1000] [],zI 6,zI 7,zI 8,zJ 9 [3,1000] [],zJ 10 [] [3,1000],zJ 11 [1000] [],zI 12,zJ 13 [1000] [],zI 14,zI 15,zI 16,zI 17,zJ 18 [3,1000] [],zJ 19 [] [3,1000],zJ 20 [1000] [],zI 21,zJ 22 [1000] [],zJ 23 [] [3,1000],zJ 24 [3,1000] [3,1000],zJ 25 [] [3,1000],zJ 26 [1000] [3,1000],zJ 27 [] [3,1000],zJ 28 [1000] [3,1000],zI 29,zI 30,zI 31]),(6,[zI 0,zJ 1 [3,1000] [],zJ 2 [] [3,1000],zJ 3 [] [3,1000],zJ 4 [3,1000] [3,1000],zJ 5 [] [3,1000],zJ 6 [1000] [3,1000],zJ 7 [] [3,1000],zJ 8 [1000] [3,1000],zJ 9 [1000] [],zI 10,zI 11])] ntmps66 rfl rfl rfl ?_
 simp
 refine qcc (by kernel_rfl) (atC bs name hl) (by simp[bk]) (by simp) (by simp) ?_
 cases h1:atB bs name with
 | false =>
  simp
  exact⟨[(1000,bkOb bs)],by simp,1000,.inl rfl,by simp[backB,hk,h1],by simp[backB,hk,h1]⟩
 | true =>
  obtain⟨u,hu,hun⟩:=atB_some h1
  obtain⟨j,hj⟩:∃ j,atP bs name=j:=⟨_,rfl⟩
  rw[hj]at hu
  have hjl:=(List.getElem?_eq_some_iff.1 hu).1
  have hj0:bs[j]=u:=(List.getElem?_eq_some_iff.1 hu).2
  have hu8:=hB u (List.mem_of_getElem? hu)
  by_cases g1:t.kind=1
  ·by_cases g2:u.kind=2
   ·by_cases g3:u.frm=t.name
    ·have f1:backB bs k name=(bs.set k { t with bl:=u.bl },0):=by simp[backB,hk,h1,hj,hu,g1,g2,g3]
     simp[hj,hk,hkl,hk0,hu,hjl,hj0,qag _ ht,qag _ hu8,g1,g2,g3,f1]
     have f2:List.take 8 (List.map AV.str u.bl)=u.bl.map AV.str:=List.take_of_length_le (by simp[hu8])
     have f3:List.take 3 t.row++(u.bl.map .str++List.drop (3+min 8 u.bl.length) t.row)=BS.row { t with bl:=u.bl }:=by
      rw[show 3+min 8 u.bl.length=11 by omega,row_drop _ ht,List.append_nil,row_blk t u ht hu8]
     rw[f2,f3]
     refine⟨⟨by omega,by simp⟩,[(1000,bkOb (bs.set k { t with bl:=u.bl }))],?_,1000,.inl rfl,by simp,by rw[← g1]⟩
     simp[bkOb,List.map_set]
    ·have f1:backB bs k name=(bs,3):=by simp[backB,hk,h1,hj,hu,g3]
     simp[hj,hk,hkl,hk0,hu,hjl,hj0,qag _ ht,qag _ hu8,g1,g2,g3,f1]
     exact⟨[(1000,bkOb bs)],by simp,1000,.inl rfl,by simp,by simp⟩
   ·have f1:backB bs k name=(bs,3):=by simp[backB,hk,h1,hj,hu,g2]
    simp[hj,hk,hkl,hk0,hu,hjl,hj0,qag _ ht,qag _ hu8,g1,g2,f1]
    exact⟨[(1000,bkOb bs)],by simp,1000,.inl rfl,by simp,by simp⟩
  ·have f1:backB bs k name=(bs,3):=by simp[backB,hk,h1,hj,hu,g1]
   simp[hj,hk,hkl,hk0,hu,hjl,hj0,qag _ ht,qag _ hu8,g1,f1]
   exact⟨[(1000,bkOb bs)],by simp,1000,.inl rfl,by simp,by simp⟩
theorem clL_strs:∀ l:List (List UInt8),clL (l.map AV.str)=true
 | []=>rfl
 | a::r=>by simp[clL_strs r]
@[simp] theorem mtL_strs (hv:Hp) (ids:List Nat) (ρ:Nat→Option Plc) (l:List (List UInt8)):mtL hv ids ρ (l.map AV.str) (l.map AV.str):=mtL_cl _ (clL_strs l)
def zbl:List (List UInt8):=[[],[],[],[],[],[],[],[]]
def doB (bs:List BS) (o:BO):List BS×Int :=
 if o.kind=1 then newB bs ⟨o.a,1,[],zbl⟩
 else if o.kind<1∨6<o.kind then (bs,5)
 else if atB bs o.a=false then (bs,1)
 else match bs[atP bs o.a]? with
  | some t=>if o.kind=2 then killB bs (atP bs o.a) else if o.kind=3 then putB bs (atP bs o.a) o else if o.kind=6 then backB bs (atP bs o.a) o.b
   else if o.kind=5 then (if t.kind≠2 then (bs,3) else newB bs ⟨o.b,1,t.name,t.bl⟩) else (if t.kind≠1 then (bs,3) else newB bs ⟨o.b,2,t.name,t.bl⟩)
  | none=>(bs,1)
def bkRs (xs:List Nat) (res:List BS×Int) (r:AV) (L':List (Nat×Ob)):Prop:=∃ id,id∈xs∧r=.tup [.agg [.sl id 0 res.1.length],.int .i64 res.2]∧L'=[(id,bkOb res.1)]
theorem doC (bs:List BS) (o:BO) (hl:bs.length<2000000) (hB:∀ b∈bs,b.bl.length=8) (hn:∀ b∈bs,b.name.length<1000000000) (ho:o.a.length<1000000000∧o.b.length<1000000000) :
  ACall Go.Proofs.Tryd.prog 50 [.agg [.sl 1000 0 bs.length],.agg (BO.row o)] [(1000,bkOb bs)] (bkRs [1000,900] (doB bs o)):=by
 refine acx func50 [] ntmps50 rfl rfl rfl ?_
 by_cases g1:o.kind=1
 ·have f1:doB bs o=newB bs ⟨o.a,1,[],zbl⟩:=by simp[doB,g1]
  have hc:=newC bs ⟨o.a,1,[],zbl⟩ hl hB rfl ho.1
  rw[f1]
  generalize newB bs ⟨o.a,1,[],zbl⟩=res at hc
  simp[BO.row,g1]
  refine qad [(1000,.whole 1000)] (by kernel_rfl) hc (by simp[BS.row,zbl]) (by simp) (by simp;exact qac rfl (by simp)) (by simp) (by simp) ?_
  rintro r L' ⟨id,hid,rfl,rfl⟩
  rcases hid with rfl | rfl
  ·refine⟨[],⟨by simp,by simp,by simp,by simp,by simp⟩,?_⟩
   simp
   exact⟨[(1000,bkOb res.1)],by simp,1000,by simp,rfl,rfl⟩
  ·refine⟨[(45,900)],⟨by simp,by simp,by simp,by simp,by simp⟩,?_⟩
   simp
   exact⟨[(900,bkOb res.1)],by simp,900,by simp,rfl,rfl⟩
 by_cases g2:o.kind<1
 ·have f1:doB bs o=(bs,5):=by simp[doB,g1,g2]
  simp[BO.row,g1,g2,f1]
  exact⟨[(1000,bkOb bs)],by simp,1000,by simp,by simp,by simp⟩
 by_cases g3:6<o.kind
 ·have f1:doB bs o=(bs,5):=by simp[doB,g1,g3]
  simp[BO.row,g1,g2,g3,f1]
  exact⟨[(1000,bkOb bs)],by simp,1000,by simp,by simp,by simp⟩
 simp[BO.row,g1,g2,g3]
 refine qcc (by kernel_rfl) (atC bs o.a hl) (by simp[bk]) (by simp) (by simp) ?_
 cases h1:atB bs o.a with
 | false =>
  have f1:doB bs o=(bs,1):=by simp[doB,g1,g2,g3,h1]
  simp[f1]
  exact⟨[(1000,bkOb bs)],by simp,1000,by simp,by simp,by simp⟩
 | true =>
  obtain⟨t,ht,htn⟩:=atB_some h1
  obtain⟨k,hk⟩:∃ k,atP bs o.a=k:=⟨_,rfl⟩
  rw[hk]at ht
  have hkl:=(List.getElem?_eq_some_iff.1 ht).1
  have hk0:bs[k]=t:=(List.getElem?_eq_some_iff.1 ht).2
  have htm:=List.mem_of_getElem? ht
  have ht8:=hB t htm
  simp[hk,hkl,hk0,ht,qag _ ht8,qbm _ ht8]
  refine⟨row_all t,?_⟩
  by_cases g4:o.kind=2
  ·have f1:doB bs o=killB bs k:=by simp[doB,h1,hk,ht,g4]
   have hc:=killC bs k t hl hB ht
   rw[f1]
   generalize killB bs k=res at hc
   simp[g4]
   refine qad [(1000,.whole 1000)] (by kernel_rfl) hc (by simp) (by simp) (by simp;exact qac rfl (by simp)) (by simp) (by simp) ?_
   rintro r L' ⟨id,hid,rfl,rfl⟩
   rcases hid with rfl | rfl
   ·refine⟨[],⟨by simp,by simp,by simp,by simp,by simp⟩,?_⟩
    simp
    exact⟨[(1000,bkOb res.1)],by simp,1000,by simp,rfl,rfl⟩
   ·refine⟨[(39,900)],⟨by simp,by simp,by simp,by simp,by simp⟩,?_⟩
    simp
    exact⟨[(900,bkOb res.1)],by simp,900,by simp,rfl,rfl⟩
  by_cases g5:o.kind=3
  ·have f1:doB bs o=putB bs k o:=by simp[doB,h1,hk,ht,g5]
   have hc:=putC bs k t o hl hB ht
   rw[f1]
   generalize putB bs k o=res at hc
   simp[g4,g5]
   refine qad [(1000,.whole 1000)] (by kernel_rfl) hc (by simp[BO.row,g5]) (by simp) (by simp;exact qac rfl (by simp)) (by simp) (by simp) ?_
   rintro r L' ⟨id,hid,rfl,rfl⟩
   have hid':id=1000:=hid.elim _root_.id _root_.id
   subst hid'
   refine⟨[],⟨by simp,by simp,by simp,by simp,by simp⟩,?_⟩
   simp
   exact⟨[(1000,bkOb res.1)],by simp,1000,by simp,rfl,rfl⟩
  by_cases g6:o.kind=6
  ·have f1:doB bs o=backB bs k o.b:=by simp[doB,h1,hk,ht,g6]
   have hc:=backC bs k t o.b hl hB ht
   rw[f1]
   generalize backB bs k o.b=res at hc
   simp[g4,g5,g6]
   refine qad [(1000,.whole 1000)] (by kernel_rfl) hc (by simp) (by simp) (by simp;exact qac rfl (by simp)) (by simp) (by simp) ?_
   rintro r L' ⟨id,hid,rfl,rfl⟩
   have hid':id=1000:=hid.elim _root_.id _root_.id
   subst hid'
   refine⟨[],⟨by simp,by simp,by simp,by simp,by simp⟩,?_⟩
   simp
   exact⟨[(1000,bkOb res.1)],by simp,1000,by simp,rfl,rfl⟩
  have m8:min 8 t.bl.length=8:=by omega
  have t8:List.take 8 (List.map AV.str t.bl)=t.bl.map AV.str:=List.take_of_length_le (by simp[ht8])
  have w1:IntKind.i64.wrap 1=1:=rfl
  have w2:IntKind.i64.wrap 2=2:=rfl
  by_cases g7:o.kind=5
  ·by_cases g8:t.kind=2
   ·have f1:doB bs o=newB bs ⟨o.b,1,t.name,t.bl⟩:=by simp[doB,h1,hk,ht,g7,g8]
    have hc:=newC bs ⟨o.b,1,t.name,t.bl⟩ hl hB ht8 ho.2
    rw[f1]
    generalize newB bs ⟨o.b,1,t.name,t.bl⟩=res at hc
    simp[g4,g5,g6,g7,g8,m8,t8,w1]
    refine qad [(1000,.whole 1000)] (by kernel_rfl) hc (by simp[BS.row]) (by simp) (by simp;exact qac rfl (by simp)) (by simp) (by simp) ?_
    rintro r L' ⟨id,hid,rfl,rfl⟩
    rcases hid with rfl | rfl
    ·refine⟨[],⟨by simp,by simp,by simp,by simp,by simp⟩,?_⟩
     simp
     exact⟨[(1000,bkOb res.1)],by simp,1000,by simp,rfl,rfl⟩
    ·refine⟨[(45,900)],⟨by simp,by simp,by simp,by simp,by simp⟩,?_⟩
     simp
     exact⟨[(900,bkOb res.1)],by simp,900,by simp,rfl,rfl⟩
   ·have f1:doB bs o=(bs,3):=by simp[doB,h1,hk,ht,g7,g8]
    simp[g4,g5,g6,g7,g8,f1]
    exact⟨[(1000,bkOb bs)],by simp,1000,by simp,by simp,by simp⟩
  ·by_cases g8:t.kind=1
   ·have f1:doB bs o=newB bs ⟨o.b,2,t.name,t.bl⟩:=by simp[doB,h1,hk,ht,g1,g2,g3,g4,g5,g6,g7,g8]
    have hc:=newC bs ⟨o.b,2,t.name,t.bl⟩ hl hB ht8 ho.2
    rw[f1]
    generalize newB bs ⟨o.b,2,t.name,t.bl⟩=res at hc
    simp[g4,g5,g6,g7,g8,m8,t8,w2]
    refine qad [(1000,.whole 1000)] (by kernel_rfl) hc (by simp[BS.row]) (by simp) (by simp;exact qac rfl (by simp)) (by simp) (by simp) ?_
    rintro r L' ⟨id,hid,rfl,rfl⟩
    rcases hid with rfl | rfl
    ·refine⟨[],⟨by simp,by simp,by simp,by simp,by simp⟩,?_⟩
     simp
     exact⟨[(1000,bkOb res.1)],by simp,1000,by simp,rfl,rfl⟩
    ·refine⟨[(45,900)],⟨by simp,by simp,by simp,by simp,by simp⟩,?_⟩
     simp
     exact⟨[(900,bkOb res.1)],by simp,900,by simp,rfl,rfl⟩
   ·have f1:doB bs o=(bs,3):=by simp[doB,h1,hk,ht,g1,g2,g3,g4,g5,g6,g7,g8]
    simp[g4,g5,g6,g7,g8,f1]
    exact⟨[(1000,bkOb bs)],by simp,1000,by simp,by simp,by simp⟩
end Go.Av.F
end
section
namespace Go.Av.F
open Go Go.Av
open Go.Proofs Go.Proofs.Tryd
attribute [-simp] getU hdS canon qae i64w
attribute [local simp] tt3 tt4 tt9 tt5 tt94 tt33 tt31 tt64 tt62 tt53
def bkN (xs:List Nat) (ok:Bool) (res:List BS×Int) (r:AV) (L':List (Nat×Ob)):Prop :=
 if ok=true then bkRs xs res r L' else (r=.tup [.agg [.nils],.int .i64 5]∧L'=[])
theorem sbookDoC (bs:List BS) (o:BO) (hl:bs.length<2000000) (hB:∀ b∈bs,b.bl.length=8) (hn:∀ b∈bs,b.name.length<1000000000) (ho:o.a.length<1000000000∧o.b.length<1000000000) :
  ACall Go.Proofs.Tryd.prog 34 [bk bs,.agg (BO.row o)] [] (bkN [901,902] (qat bs) (doB bs o)):=by
 refine acx func34 [(3,[zJ 0 [2] [],zJ 2 [3] [2],zJ 1 [] [3],zI 3,zI 4,zI 5,zI 6,zI 7])] ntmps34 rfl rfl rfl ?_
 have hd:=doC bs o hl hB hn ho
 generalize doB bs o=res at hd
 simp[bk,BO.row]
 refine qaj (by kernel_rfl) (bookOkC bs hl hB hn) (by simp[bk]) (by simp) ?_
 cases h1:qat bs with
 | false=>simp[bkN]
 | true =>
  simp
  refine qad [] (by kernel_rfl) (copyC bs hl) (by simp[bk]) (by simp) (by simp) (by simp) (by simp) ?_
  rintro r L' ⟨rfl,rfl⟩
  refine⟨[(6,901)],⟨by simp,by simp,by simp,by simp,by simp⟩,?_⟩
  simp
  refine qad [(1000,.whole 901)] (by kernel_rfl) hd (by simp[BO.row]) (by simp) (by simp;exact qac rfl (by simp)) (by simp) (by simp) ?_
  rintro r L' ⟨id,hid,rfl,rfl⟩
  simp only[List.mem_cons,List.not_mem_nil,or_false]at hid
  rcases hid with rfl | rfl
  ·refine⟨[],⟨by simp,by simp,by simp,by simp,by simp⟩,?_⟩
   simp
   exact⟨[(901,bkOb res.1)],by simp,901,by simp,rfl,rfl⟩
  ·refine⟨[(900,902)],⟨by simp,by simp,by simp,by simp,by simp⟩,?_⟩
   simp
   exact⟨[(902,bkOb res.1)],by simp,902,by simp,rfl,rfl⟩
end Go.Av.F
end
section
namespace Go.Av.F
open Go Go.Av
open Go.Proofs Go.Proofs.Tryd
attribute [-simp] getU hdS canon qae i64w
attribute [local simp] tt3 tt4 tt9 tt5 tt94 tt33 tt31 tt64 tt62 tt53
theorem acall_pure {P:Program} {f:Nat} (hbd:hasBody P f=true) {args:List AV} {vs:Array Value} {v:Value} {r:AV} (hargs:∀ w Z γ us,CRel w Z γ args us→us=vs) (h:∀ w,Calls P f vs w fun e w'=>e=.returned v∧w'=w)
  (hr:∀ w Z γ,AVRel w Z γ r v):ACall P f args [] (fun x L'=>x=r∧L'=[]):=by
 intro w Z γ us hu hh hs
 rw[hargs w Z γ us hu]
 refine .inl ⟨hbd,(h w).mono ?_⟩
 rintro e w' ⟨rfl,rfl⟩
 exact⟨v,r,[],Z,γ,rfl,⟨rfl,rfl⟩,hr _ _ _,hh,.refl _ _,fun _ h=>h,fun _ h=>.inl h,fun id o rg ho=>by simp[hpOf]at ho,fun _ _ _=>rfl⟩
theorem args_str2 {w:World} {Z:Addr→Prop} {γ:Gm} {a b:List UInt8} {us:Array Value} (h:CRel w Z γ [.str a,.str b] us):us=#[.string ⟨a.toArray⟩,.string ⟨b.toArray⟩]:=by
 have h1:=h.2 0 (by simp)
 have h2:=h.2 1 (by simp)
 have hs:=h.1
 simp only[List.length_cons,List.length_nil]at hs
 simp only[List.getD_cons_zero,List.getD_cons_succ]at h1 h2
 generalize e1:us.getD 0 undef=x at h1
 generalize e2:us.getD 1 undef=y at h2
 cases h1;cases h2
 apply Array.ext
 ·simpa using hs
 ·intro i hi1 hi2
  have:i=0∨i=1:=by omega
  rcases this with rfl | rfl
  ·simpa [Array.getD,hi1]using e1
  ·simpa [Array.getD,hi1]using e2
theorem cmp178 (a b:ByteArray) (w:World) :
  Calls Go.Proofs.Tryd.prog 87 #[.string a,.string b] w fun e w'=>e=.returned (.int .i64 (Lib.compareBytes a.data.toList b.data.toList))∧w'=w:=by
 have u3:=Go.Proofs.Tryd.underlying3
 have u9:=Go.Proofs.Tryd.underlying9
 go_enter Go.Proofs.Tryd.func87,Go.Proofs.Tryd.ntmps87
 go_wp2
 rw[run_callFunc_extern Go.Proofs.Tryd.func92 (by kernel_rfl) (by kernel_rfl) (by kernel_rfl) (e:=Extern.BytealgCompare.compare) (by kernel_rfl),Lib.run_compareString]
 simp only[Result.andThen]
 rw[Oper.upon_value]
 go_wp2
 go_ret
 exact⟨rfl,rfl⟩
theorem cmpC178 (a b:List UInt8):ACall Go.Proofs.Tryd.prog 87 [.str a,.str b] [] (fun x L'=>x=.int .i64 (Lib.compareBytes a b)∧L'=[]) :=
 acall_pure (by kernel_rfl) (fun _ _ _ _ h=>args_str2 h) (fun w=>cmp178 ⟨a.toArray⟩ ⟨b.toArray⟩ w) (fun _ _ _=>.int _ _ _)
end Go.Av.F
end
section
namespace Go.Av.F
open Go Go.Av
open Go.Proofs Go.Proofs.Tryd
attribute [-simp] getU hdS canon qae i64w
attribute [local simp] tt3 tt4 tt9 tt5 tt94 tt33 tt31 tt64 tt62 tt53 tt119
theorem compareC (a b:List UInt8):ACall Go.Proofs.Tryd.prog 79 [.str a,.str b] [] (fun x L'=>x=.int .i64 (Lib.compareBytes a b)∧L'=[]):=by
 refine acx func79 [] ntmps79 rfl rfl rfl ?_
 simp
 refine qaj (by kernel_rfl) (cmpC178 a b) (by simp) (by simp) ?_
 simp
theorem placeFC (s:BS) (name:List UInt8) (hs:s.bl.length=8):ACall Go.Proofs.Tryd.prog 78 [.agg (BS.row s),.str name] [] (fun x L'=>x=.int .i64 (Lib.compareBytes s.name name)∧L'=[]):=by
 refine acx func78 [] ntmps78 rfl rfl rfl ?_
 simp[qag _ hs]
 refine qaj (by kernel_rfl) (compareC s.name name) (by simp) (by simp) ?_
 simp
theorem withinC (a b c:Int):ACall Go.Proofs.Tryd.prog 20 [.int .i64 a,.int .i64 b,.int .i64 c] [] (fun x L'=>x=.bool (decide (b≤a) && decide (a≤c))∧L'=[]):=by
 refine acx func20 [] ntmps20 rfl rfl rfl ?_
 simp
 constructor
 ·intros;omega
 ·intros;omega
theorem isBlockC (i:Int):ACall Go.Proofs.Tryd.prog 60 [.int .i64 i] [] (fun x L'=>x=.bool (decide (0≤i) && decide (i≤7))∧L'=[]):=by
 refine acx func60 [] ntmps60 rfl rfl rfl ?_
 simp
 refine qaj (by kernel_rfl) (withinC i 0 7) (by simp) (by simp) ?_
 simp
theorem cmp_spec:∀ (a b:List UInt8),(Lib.compareBytes a b<0↔a<b)∧(Lib.compareBytes a b=0↔a=b)
 | [],[]=>by simp[Lib.compareBytes]
 | [],_::_=>by simp[Lib.compareBytes]
 | _::_,[]=>by simp[Lib.compareBytes]
 | x::xs,y::ys=>by
  obtain⟨h1,h2⟩:=cmp_spec xs ys
  simp only[Lib.compareBytes,List.cons_lt_cons_iff,List.cons.injEq]
  by_cases g1:x<y
  ·have:x≠y:=by rintro rfl;exact absurd g1 (UInt8.lt_irrefl _)
   simp[g1,this]
  ·by_cases g2:y<x
   ·have:x≠y:=by rintro rfl;exact absurd g2 (UInt8.lt_irrefl _)
    simp[g1,g2,this]
   ·have:x=y:=UInt8.le_antisymm (UInt8.not_lt.1 g2) (UInt8.not_lt.1 g1)
    subst this
    simp[UInt8.lt_irrefl,h1,h2]
theorem cmp_neg (a b:List UInt8):decide (Lib.compareBytes a b<0)=Op.bytesLess a b:=by
 rw[Go.Proofs.bytesLess_eq];simp[(cmp_spec a b).1]
theorem cmp_zero (a b:List UInt8):(Lib.compareBytes a b == 0)=(a == b):=by
 have:=(cmp_spec a b).2
 by_cases h:a=b
 ·have h2:=this.2 h
  rw[h2];subst h;simp
 ·have h2:¬ Lib.compareBytes a b=0:=fun e=>h (this.1 e)
  rw[beq_false_of_ne h2,beq_false_of_ne h]
def Srt (bs:List BS):Prop:=∀ (i j:Nat) (a b:BS),i<j→bs[i]?=some a→bs[j]?=some b→Op.bytesLess a.name b.name=true
theorem bl_trans {a b c:List UInt8} (h1:Op.bytesLess a b=true) (h2:Op.bytesLess b c=true):Op.bytesLess a c=true:=by
 simp only[Go.Proofs.bytesLess_eq,decide_eq_true_eq]at *
 exact Std.lt_trans h1 h2
theorem searchC (bs:List BS) (name:List UInt8) (hl:bs.length<2000000) (hB:∀ b∈bs,b.bl.length=8) (hS:Srt bs) :
  ACall Go.Proofs.Tryd.prog 77 [.lst 11 (bs.map BS.row),.str name,.fn 78 []] [] (fun x L'=>x=.tup [.int .i64 (atP bs name),.bool (atB bs name)]∧L'=[]):=by
 refine acx func77 [] ntmps77 rfl rfl rfl ?_
 simp
 refine qba (X:=Nat×Nat) [0,1,2,8,9,10] (fun x=>⟨mkT [(0,.lst 11 (bs.map BS.row)),(1,.str name),(2,.fn 78 []),(8,.int .i64 bs.length),(9,.int .i64 x.1),(10,.int .i64 x.2)],hpOf [],Us.of []⟩) (fun x=>x.2-x.1)
  (fun x=>x.1≤x.2∧x.2≤bs.length∧(∀ i a,i<x.1→bs[i]?=some a→Op.bytesLess a.name name=true)∧(∀ i a,x.2≤i→bs[i]?=some a→Op.bytesLess a.name name=false)) (0,bs.length)
  ⟨⟨by simp,by simp,by simp,fun i a h1 h2=>by have:=(List.getElem?_eq_some_iff.1 h2).1;simp only at h1;omega⟩,[],by simp[qae],by simp[canon]⟩ ?_
 rintro⟨i,j⟩ ⟨hij,hj,ha,hb⟩
 simp only at hij hj ha hb
 by_cases h1:i<j
 ·obtain⟨m,hm⟩:∃ m,(i+j) / 2=m:=⟨_,rfl⟩
  have e1:IntKind.i64.wrap ((i:Int)+j)=((i+j:Nat):Int):=by rw[qao _ (by omega)];omega
  have e6:IntKind.i64.wrap ((IntKind.u64.wrap ((i:Int)+j)).fdiv (2 ^ min 1 IntKind.u64.bits))=(m:Int):=by
   rw[show IntKind.u64.wrap ((i:Int)+j)=(i:Int)+j from IntWalk.u64_in _ (by omega)]
   rw[show(2:Int) ^ min 1 IntKind.u64.bits=2 from rfl,Int.fdiv_eq_ediv_of_nonneg _ (by omega)]
   rw[qao _ (by omega)];omega
  have e7:IntKind.i64.wrap ((m:Int)+1)=((m+1:Nat):Int):=by rw[qao _ (by omega)];omega
  have hml:m<bs.length:=by omega
  obtain⟨s,e0⟩:∃ s,bs[m]=s:=⟨_,rfl⟩
  have e5:bs[m]?=some s:=by rw[← e0];exact List.getElem?_eq_getElem hml
  have hs:=hB s (List.mem_of_getElem? e5)
  simp[h1,e1,e6,hml,e0,e5,qag _ hs,qbm _ hs]
  refine qaj (by kernel_rfl) (placeFC s name hs) (by simp) (by simp) ?_
  have hneg:=cmp_neg s.name name
  cases hc:Op.bytesLess s.name name with
  | true =>
   rw[hc]at hneg
   have hneg':Lib.compareBytes s.name name<0:=by simpa using hneg
   simp[hneg',e7]
   refine qax (m+1,j) (by simp only;omega) ⟨by simp only;omega,hj,fun x a hx hxa=>?_,hb⟩ [] (by simp[qae]) (by simp[canon])
   simp only at hx
   by_cases hxm:x=m
   ·subst hxm;rw[e5]at hxa;injection hxa with hxa;subst hxa;exact hc
   ·exact bl_trans (hS x m a s (by omega) hxa e5) hc
  | false =>
   rw[hc]at hneg
   have hneg':¬ Lib.compareBytes s.name name<0:=by simpa using hneg
   simp[hneg',show 0≤Lib.compareBytes s.name name by omega]
   refine qax (i,m) (by simp only;omega) ⟨by simp only;omega,by simp only;omega,ha,fun x a hx hxa=>?_⟩ [] (by simp[qae]) (by simp[canon])
   simp only at hx
   by_cases hxm:x=m
   ·subst hxm;rw[e5]at hxa;injection hxa with hxa;subst hxa;exact hc
   ·cases hq:Op.bytesLess a.name name with
    | false=>rfl
    | true=>rw[bl_trans (hS m x s a (by omega) e5 hxa) hq]at hc;cases hc
 ·have hji:j=i:=by omega
  subst hji
  by_cases h2:j<bs.length
  ·obtain⟨s,e0⟩:∃ s,bs[j]=s:=⟨_,rfl⟩
   have e5:bs[j]?=some s:=by rw[← e0];exact List.getElem?_eq_getElem h2
   have hs:=hB s (List.mem_of_getElem? e5)
   have hp:atP bs name=j:=(qbz (fun b:BS=>Op.bytesLess b.name name) bs j s (fun x hx y hy=>ha x y hx hy) e5).2 (hb j s (by omega) e5)
   simp[h2,e0,e5,qag _ hs,qbm _ hs]
   refine qaj (by kernel_rfl) (placeFC s name hs) (by simp) (by simp) ?_
   have hz:=cmp_zero s.name name
   simp[hz,hp,atB,e5]
  ·have hj':j=bs.length:=by omega
   have hp:atP bs name=bs.length:=by
    unfold atP
    rw[takeWhile_all _ _ (fun b hb'=>by
     obtain⟨x,hx,e⟩:=List.mem_iff_getElem.1 hb'
     exact ha x b (by omega) (by rw[← e];exact List.getElem?_eq_getElem hx))]
   subst hj'
   simp[hp,atB]
theorem placeC (bs:List BS) (name:List UInt8) (hl:bs.length<2000000) (hB:∀ b∈bs,b.bl.length=8) (hS:Srt bs) :
  ACall Go.Proofs.Tryd.prog 57 [bk bs,.str name] [] (fun x L'=>x=.tup [.int .i64 (atP bs name),.bool (atB bs name)]∧L'=[]):=by
 refine acx func57 [] ntmps57 rfl rfl rfl ?_
 simp[bk]
 refine qaj (by kernel_rfl) (searchC bs name hl hB hS) (by simp) (by simp) ?_
 simp
end Go.Av.F
end
section
namespace Go.Av.F
open Go Go.Av
open Go.Proofs Go.Proofs.Tryd
attribute [-simp] getU hdS canon qae i64w
attribute [local simp] tt3 tt4 tt9 tt5 tt94 tt33 tt31 tt64 tt62 tt53 tt119
def cloneR (x:Nat) (bs:List BS) (r:AV) (L':List (Nat×Ob)):Prop:=(bs=[]∧r=.nils∧L'=[])∨(r=.sl x 0 bs.length∧L'=[(x,bkOb bs)])
theorem cloneC (bs:List BS) (hl:bs.length<2000000):ACall Go.Proofs.Tryd.prog 43 [.lst 11 (bs.map BS.row)] [] (cloneR 7 bs):=by
 refine acx func43 [] ntmps43 rfl rfl rfl ?_
 by_cases h:bs=[]
 ·subst h
  simp
  exact⟨⟨[],by simp,.inl ⟨rfl,rfl,rfl⟩⟩,[(7,bkOb [])],by simp[bkOb],.inr ⟨rfl,rfl⟩⟩
 ·simp[h]
  exact⟨⟨by omega,fun b _ x hx=>row_all b x hx⟩,[(7,bkOb bs)],by simp[bkOb],.inr ⟨rfl,rfl⟩⟩
def idxB (p:BS→Bool) (bs:List BS):Int:=match bs.findIdx? p with
 | some i=>i
 | none=>-1
@[simp] theorem mtL_row (hv:Hp) (ids:List Nat) (ρ:Nat→Option Plc) (b:BS):mtL hv ids ρ (BS.row b) (BS.row b):=mtL_cl _ (row_cl b)
theorem idx_step (p:BS→Bool):∀ (bs:List BS) (i:Nat) (s:BS),(∀ j,j<i→∀ y,bs[j]?=some y→p y=false)→bs[i]?=some s→p s=true→bs.findIdx? p=some i
 | [],i,s,_,h,_=>by simp at h
 | a::r,0,s,_,h,hp=>by
  simp only[List.getElem?_cons_zero,Option.some.injEq]at h
  subst h;simp[List.findIdx?_cons,hp]
 | a::r,i+1,s,hb,h,hp=>by
  have h0:p a=false:=hb 0 (by omega) a (by simp)
  have:=idx_step p r i s (fun j hj y hy=>hb (j+1) (by omega) y (by simpa using hy)) (by simpa using h) hp
  simp[List.findIdx?_cons,h0,this]
theorem idxC (p:BS→Bool) (g:Nat) (o:Ob) (bs:List BS) (hl:bs.length<2000000) (hB:∀ b∈bs,b.bl.length=8) (ho:∀ ρ,renOb ρ o=o) (hc:clR o.els=true) (en:qcf Go.Proofs.Tryd.prog g=true)
  (hg:∀ s∈bs,ACall Go.Proofs.Tryd.prog g [.agg (BS.row s),.ptr 1000 0 0] [(1000,o)] (fun r L'=>r=.bool (p s)∧L'=[(1000,o)])) :
  ACall Go.Proofs.Tryd.prog 54 [.lst 11 (bs.map BS.row),.fn g [.ptr 1000 0 0]] [(1000,o)] (fun r L'=>r=.int .i64 (idxB p bs)∧L'=[(1000,o)]):=by
 refine acx func54 [] ntmps54 rfl rfl rfl ?_
 simp
 refine qba (X:=Nat) [0,1,7,8] (fun i=>⟨mkT [(0,.lst 11 (bs.map BS.row)),(1,.fn g [.ptr 1000 0 0]),(7,.int .i64 bs.length),(8,.int .i64 i)],hpOf [(1000,o)],Us.of [1000,1000]⟩) (fun i=>bs.length-i)
  (fun i=>i≤bs.length∧∀ j,j<i→∀ y,bs[j]?=some y→p y=false) 0 ⟨by simp,[(1000,1000)],by simp[qae],by simp[canon,obOf,ho]⟩ ?_
 rintro i ⟨hi,ha⟩
 by_cases h1:i<bs.length
 ·obtain⟨s,e0⟩:∃ s,bs[i]=s:=⟨_,rfl⟩
  have e1:bs[i]?=some s:=by rw[← e0];exact List.getElem?_eq_getElem h1
  have hsm:=List.mem_of_getElem? e1
  have hs:=hB s hsm
  have e2:IntKind.i64.wrap ((i:Int)+1)=((i+1:Nat):Int):=by rw[qao _ (by omega)];omega
  simp[h1,e0,e1,qag _ hs,qbm _ hs]
  refine qad [(1000,.whole 1000)] en (hg s hsm) (by simp) (by simp) (by simp;exact qac rfl hc) (by simp) (by simp) ?_
  rintro r L' ⟨rfl,rfl⟩
  refine⟨[],⟨by simp,by simp,by simp,by simp,by simp⟩,?_⟩
  cases hp:p s with
  | true =>
   have:=idx_step p bs i s ha e1 hp
   simp[ho,idxB,this]
  | false =>
   simp[ho,e2]
   refine qax (i+1) (by omega) ⟨by omega,fun j hj y hy=>?_⟩ [(1000,1000)] (by simp[qae]) (by simp[canon,obOf,ho])
   by_cases hji:j=i
   ·subst hji;rw[e1]at hy;injection hy with hy;subst hy;exact hp
   ·exact ha j (by omega) y hy
 ·have hie:i=bs.length:=by omega
  have:bs.findIdx? p=none:=by
   rw[List.findIdx?_eq_none_iff]
   intro x hx
   obtain⟨j,hj,e⟩:=List.mem_iff_getElem.1 hx
   exact ha j (by omega) x (by rw[← e];exact List.getElem?_eq_getElem hj)
  subst hie
  simp[idxB,this]
end Go.Av.F
end
section
namespace Go.Av.F
open Go Go.Av
open Go.Proofs Go.Proofs.Tryd
attribute [-simp] getU hdS canon qae i64w
attribute [local simp] tt3 tt4 tt9 tt5 tt94 tt33 tt31 tt64 tt62 tt53 tt119
def sOb (s:BS):Ob:=⟨11,[BS.row s]⟩
@[simp] theorem sOb_ren (ρ:Nat→Option Plc) (s:BS):renOb ρ (sOb s)=sOb s:=by simp[sOb]
theorem sOb_cl (s:BS):clR (sOb s).els=true:=by simp[sOb,clR]
theorem leadsFC (s x:BS) (hs:s.bl.length=8) (hx:x.bl.length=8):ACall Go.Proofs.Tryd.prog 55 [.agg (BS.row x),.ptr 1000 0 0] [(1000,sOb s)] (fun r L'=>r=.bool (x.name == s.frm)∧L'=[(1000,sOb s)]):=by
 refine acx func55 [] ntmps55 rfl rfl rfl ?_
 simp[sOb,qag _ hs,qag _ hx]
def leadsB (bs:List BS):Nat→BS→Bool
 | 0,_=>false
 | n+1,s=>if s.frm=[] then s.kind == 1 else
   match bs.findIdx? (fun x=>x.name == s.frm)with
   | some j=>match bs[j]? with
    | some t=>if t.kind=s.kind then false else leadsB bs n t
    | none=>false
   | none=>false
theorem leadsC (bs:List BS) (s:BS) (hl:bs.length<2000000) (hB:∀ b∈bs,b.bl.length=8) (hs:s.bl.length=8):ACall Go.Proofs.Tryd.prog 42 [bk bs,.agg (BS.row s)] [] (fun r L'=>r=.bool (leadsB bs bs.length s)∧L'=[]):=by
 obtain⟨res,hres⟩:∃ res,leadsB bs bs.length s=res:=⟨_,rfl⟩
 rw[hres]
 refine acx func42 [(6,[zI 0,zI 1,zI 2,zI 3,zJ 4 [2] [],zJ 5 [] [2],zI 6,zI 7,zI 8,zJ 9 [] [2],zJ 10 [3] [2],zI 11,zI 12])] ntmps42 rfl rfl rfl ?_
 simp[bk,qag _ hs]
 refine qba (X:=Nat×BS) [2,3,8,9] (fun x=>⟨mkT [(2,.ptr 2 0 0),(3,.ptr 3 0 0),(8,.int .i64 bs.length),(9,.int .i64 x.1)],hpOf [(2,⟨1,[[.lst 11 (bs.map BS.row)]]⟩),(3,sOb x.2)],Us.of [2,3]⟩) (fun x=>bs.length-x.1)
  (fun x=>x.1≤bs.length∧x.2.bl.length=8∧res=leadsB bs (bs.length-x.1) x.2) (0,s) ⟨⟨by simp,hs,hres.symm⟩,[(2,2),(3,3)],by simp[qae],by simp[canon,obOf,sOb]⟩ ?_
 rintro⟨i,t⟩ ⟨hi,ht,he⟩
 simp only at hi ht he
 by_cases h1:i<bs.length
 ·obtain⟨n,hn⟩:∃ n,bs.length-i=n+1:=⟨bs.length-i-1,by omega⟩
  have e2:IntKind.i64.wrap ((i:Int)+1)=((i+1:Nat):Int):=by rw[qao _ (by omega)];omega
  rw[hn]at he
  by_cases h2:t.frm=[]
  ·simp[h1,h2,he,leadsB,sOb]
  ·simp[h1,h2,sOb]
   refine qad [(1000,.whole 3)] (by kernel_rfl) (idxC (fun x=>x.name == t.frm) 55 (sOb t) bs hl hB (fun ρ=>sOb_ren ρ t) (sOb_cl t) (by kernel_rfl) (fun x hx=>leadsFC t x ht (hB x hx))) (by simp) (by simp) (by simp;exact⟨rfl,qac rfl (by simp[clR])⟩) (by simp) (by simp) ?_
   rintro r L' ⟨rfl,rfl⟩
   refine⟨[],⟨by simp,by simp,by simp,by simp,by simp⟩,?_⟩
   cases hf:bs.findIdx? (fun x=>x.name == t.frm)with
   | none =>
    have:res=false:=by rw[he];simp[leadsB,h2,hf]
    simp[idxB,hf,this]
   | some j =>
    have hjl:j<bs.length:=(List.findIdx?_eq_some_iff_findIdx_eq.1 hf).1
    obtain⟨u,e0⟩:∃ u,bs[j]=u:=⟨_,rfl⟩
    have e1:bs[j]?=some u:=by rw[← e0];exact List.getElem?_eq_getElem hjl
    have hu:=hB u (List.mem_of_getElem? e1)
    by_cases h4:u.kind=t.kind
    ·have:res=false:=by rw[he];simp[leadsB,h2,hf,e1,h4]
     simp[idxB,hf,hjl,e0,e1,h4,this,qag _ hu,qag _ ht,sOb]
    ·have e5:res=leadsB bs n u:=by rw[he];simp[leadsB,h2,hf,e1,h4]
     simp[idxB,hf,hjl,e0,e1,h4,qag _ hu,qag _ ht,qbm _ hu,row_drop _ ht,e2,sOb]
     refine⟨⟨row_all u,?_⟩,fun h=>by omega⟩
     refine qax (i+1,u) (by simp only;omega) ⟨by simp only;omega,hu,?_⟩ [(2,2),(3,3)] (by simp[qae]) (by simp[canon,obOf,sOb])
     simp only;rw[e5];congr 1;omega
 ·have:res=false:=by rw[he,show bs.length-i=0 by omega];rfl
  simp[h1,this]
end Go.Av.F
end
section
namespace Go.Av.F
open Go Go.Av
open Go.Proofs Go.Proofs.Tryd
attribute [-simp] getU hdS canon qae i64w
attribute [local simp] tt3 tt4 tt9 tt5 tt94 tt103
def setL (l:List UInt8):List AV:=(List.range 256).map fun i=>.bool (l.any fun c=>c.toNat == i)
@[simp] theorem setL_len (l:List UInt8):(setL l).length=256:=by simp[setL]
theorem setL_nil:setL []=List.replicate 256 (.bool false):=by
 rw[List.eq_replicate_iff]
 refine⟨setL_len _,fun x hx=>?_⟩
 simp only[setL,List.mem_map]at hx
 obtain⟨_,_,rfl⟩:=hx
 rfl
theorem setL_get (l:List UInt8) (c:UInt8):(setL l)[c.toNat]?=some (.bool (l.any fun d=>d == c)):=by
 have hc:c.toNat<256:=c.toNat_lt
 have:∀ d:UInt8,(d.toNat == c.toNat)=(d == c):=fun d=>by
  by_cases h:d=c
  ·simp[h]
  ·have:d.toNat≠c.toNat:=fun e=>h (UInt8.toNat_inj.1 e)
   rw[beq_false_of_ne h,beq_false_of_ne this]
 simp[setL,hc,this]
theorem setL_clL:∀ l,clL (setL l)=true:=fun l=>by
 have:∀ (m:List Nat) (f:Nat→Bool),clL (m.map fun i=>AV.bool (f i))=true:=fun m f=>by induction m <;> simp_all
 exact this _ _
def setOb (l:List UInt8):Ob:=⟨256,[setL l]⟩
theorem setL_ren (ρ:Nat→Option Plc) (l:List UInt8):renL ρ (setL l)=setL l:=by
 have:∀ (m:List Nat) (f:Nat→Bool),renL ρ (m.map fun i=>AV.bool (f i))=m.map fun i=>AV.bool (f i):=fun m f=>by induction m <;> simp_all
 exact this _ _
@[simp] theorem setOb_ren (ρ:Nat→Option Plc) (l:List UInt8):renOb ρ (setOb l)=setOb l:=by simp[setOb,setL_ren]
theorem containsC (l:List UInt8) (c:UInt8):ACall Go.Proofs.Tryd.prog 81 [.ptr 1000 0 0,.int .u8 c.toNat] [(1000,setOb l)] (fun r L'=>r=.bool (l.any fun d=>d == c)∧L'=[(1000,setOb l)]):=by
 have hc:c.toNat<256:=c.toNat_lt
 refine acx func81 [] ntmps81 rfl rfl rfl ?_
 have hg:(setL l)[c.toNat]'(by rw[setL_len];exact hc)=.bool (l.any fun d=>d == c):=by
  have:=setL_get l c
  rw[List.getElem?_eq_getElem (by rw[setL_len];exact hc)]at this
  injection this
 simp[setOb,setL_get,hc,hg]
 omega
theorem setL_put (l:List UInt8) (c:UInt8):(setL l).set c.toNat (.bool true)=setL (l++[c]):=by
 apply List.ext_getElem
 ·simp
 ·intro i h1 h2
  have hi:i<256:=by simpa using h2
  rw[List.getElem_set]
  by_cases h:c.toNat=i
  ·subst h;simp[setL]
  ·have:(c.toNat == i)=false:=beq_false_of_ne h
   simp[setL,h,this]
theorem asciiC (cs:List UInt8) (hl:cs.length<2000000) (hc:∀ c∈cs,c.toNat<128):ACall Go.Proofs.Tryd.prog 70 [.str cs] [] (fun r L'=>r=.tup [.agg (setL cs),.bool true]∧L'=[]):=by
 refine acx func70 [] ntmps70 rfl rfl rfl ?_
 have hz:=setL_nil
 simp[← hz]
 refine qba (X:=Nat) [0,2,4] (fun i=>⟨mkT [(0,.str cs),(2,.ptr 2 0 0),(4,.int .i64 i)],hpOf [(2,setOb (cs.take i))],Us.of [2]⟩) (fun i=>cs.length-i) (fun i=>i≤cs.length) 0 ⟨by simp,[(2,2)],by simp[qae],by simp[canon,obOf,setOb,setL_ren]⟩ ?_
 intro i hi
 by_cases h1:i<cs.length
 ·obtain⟨x,e0⟩:∃ x,cs[i]=x:=⟨_,rfl⟩
  have e1:cs[i]?=some x:=by rw[← e0];exact List.getElem?_eq_getElem h1
  have hx:=hc x (List.mem_of_getElem? e1)
  have e2:IntKind.i64.wrap ((i:Int)+1)=((i+1:Nat):Int):=by rw[qao _ (by omega)];omega
  have hx':¬ (128:Int)≤x.toNat:=by omega
  have f1:List.take x.toNat (setL (cs.take i))++AV.bool true::List.drop (x.toNat+1) (setL (cs.take i))=setL (cs.take (i+1)):=by
   have:=setL_put (cs.take i) x
   rw[List.set_eq_take_append_cons_drop,if_pos (by rw[setL_len];omega)]at this
   rw[this,List.take_add_one,e1];rfl
  simp[h1,e0,e1,e2,hx',setOb,f1]
  refine⟨by omega,by omega,?_⟩
  exact qax (i+1) (by omega) (by omega) [(2,2)] (by simp[qae]) (by simp[canon,obOf,setOb,setL_ren])
 ·have:i=cs.length:=by omega
  subst this
  have f2:List.take 256 (setL cs)=setL cs:=List.take_of_length_le (by simp)
  simp[setOb,f2]
  intro x hx
  simp only[setL,List.mem_map]at hx
  obtain⟨_,_,rfl⟩:=hx
  rfl
end Go.Av.F
end
section
namespace Go.Av.F
open Go Go.Av
open Go.Proofs Go.Proofs.Tryd
attribute [-simp] getU hdS canon qae i64w
attribute [local simp] tt3 tt4 tt9 tt5 tt94 tt103
def inS (l:List UInt8) (c:UInt8):Bool:=l.any fun d=>d == c
theorem setOb_cl (l:List UInt8):clR (setOb l).els=true:=by simp[setOb,clR,setL_clL]
theorem trimLC (l s:List UInt8) (hl:s.length<2000000):ACall Go.Proofs.Tryd.prog 71 [.str s,.ptr 1000 0 0] [(1000,setOb l)] (fun r L'=>r=.str (s.dropWhile (inS l))∧L'=[(1000,setOb l)]):=by
 obtain⟨res,hres⟩:∃ res,s.dropWhile (inS l)=res:=⟨_,rfl⟩
 rw[hres]
 refine acx func71 [] ntmps71 rfl rfl rfl ?_
 simp
 refine qba (X:=List UInt8) [0,1] (fun t=>⟨mkT [(0,.str t),(1,.ptr 1000 0 0)],hpOf [(1000,setOb l)],Us.of [1000,1000]⟩) (fun t=>t.length) (fun t=>t.length<2000000∧t.dropWhile (inS l)=res) s ⟨⟨hl,hres⟩,[(1000,1000)],by simp[qae],by simp[canon,obOf]⟩ ?_
 rintro t ⟨ht,he⟩
 cases t with
 | nil =>
  simp
  simpa using he
 | cons c t =>
  simp
  refine qad [(1000,.whole 1000)] (by kernel_rfl) (containsC l c) (by simp) (by simp) (by simp;exact qac rfl (setOb_cl l)) (by simp) (by simp) ?_
  rintro r L' ⟨rfl,rfl⟩
  refine⟨[],⟨by simp,by simp,by simp,by simp,by simp⟩,?_⟩
  have hd:(l.any fun d=>d == c)=inS l c:=rfl
  rw[hd]
  cases hc:inS l c with
  | true =>
   have he':t.dropWhile (inS l)=res:=by rw[← he];simp[List.dropWhile,hc]
   simp
   refine qax t (by simp) ⟨by simp at ht;omega,he'⟩ [(1000,1000)] (by simp[qae]) (by simp[canon,obOf])
  | false =>
   have he':c::t=res:=by rw[← he];simp[List.dropWhile,hc]
   simp[he']
theorem trimRC (l s:List UInt8) (hl:s.length<2000000):ACall Go.Proofs.Tryd.prog 72 [.str s,.ptr 1000 0 0] [(1000,setOb l)] (fun r L'=>r=.str (s.reverse.dropWhile (inS l)).reverse∧L'=[(1000,setOb l)]):=by
 obtain⟨res,hres⟩:∃ res,(s.reverse.dropWhile (inS l)).reverse=res:=⟨_,rfl⟩
 rw[hres]
 refine acx func72 [] ntmps72 rfl rfl rfl ?_
 simp
 refine qba (X:=List UInt8) [0,1] (fun t=>⟨mkT [(0,.str t),(1,.ptr 1000 0 0)],hpOf [(1000,setOb l)],Us.of [1000,1000]⟩) (fun t=>t.length) (fun t=>t.length<2000000∧(t.reverse.dropWhile (inS l)).reverse=res) s ⟨⟨hl,hres⟩,[(1000,1000)],by simp[qae],by simp[canon,obOf]⟩ ?_
 rintro t ⟨ht,he⟩
 rcases List.eq_nil_or_concat t with rfl | ⟨u,c,rfl⟩
 ·simp
  simpa using he
 ·simp only[List.concat_eq_append]at *
  have hul:u.length<2000000:=by simp at ht;omega
  have e1:IntKind.i64.wrap ((u.length:Int)+1-1)=(u.length:Int):=by rw[qao _ (by omega)];omega
  have e2:IntKind.i64.wrap (u.length:Int)=(u.length:Int):=qao _ (by omega)
  have e3:(u++[c])[u.length]?=some c:=by simp
  simp[e1,e2,e3]
  refine⟨by omega,?_⟩
  refine qad [(1000,.whole 1000)] (by kernel_rfl) (containsC l c) (by simp) (by simp) (by simp;exact qac rfl (setOb_cl l)) (by simp) (by simp) ?_
  rintro r L' ⟨rfl,rfl⟩
  refine⟨[],⟨by simp,by simp,by simp,by simp,by simp⟩,?_⟩
  have hd:(l.any fun d=>d == c)=inS l c:=rfl
  rw[hd]
  cases hc:inS l c with
  | true =>
   have he':(u.reverse.dropWhile (inS l)).reverse=res:=by rw[← he];simp[List.dropWhile,hc]
   simp[e1,e2]
   exact qax u (by simp) ⟨hul,he'⟩ [(1000,1000)] (by simp[qae]) (by simp[canon,obOf])
  | false =>
   have he':u++[c]=res:=by rw[← he];simp[List.dropWhile,hc]
   simp[he']
end Go.Av.F
end
section
namespace Go.Av.F
open Go Go.Av
open Go.Proofs Go.Proofs.Tryd
attribute [-simp] getU hdS canon qae i64w
attribute [local simp] tt3 tt4 tt9 tt5 tt94 tt103
def stripS (l s:List UInt8):List UInt8:=((s.reverse.dropWhile (inS l)).reverse).dropWhile (inS l)
theorem trimC (s cs:List UInt8) (hl:s.length<2000000) (hs:s≠[]) (hcl:2≤cs.length) (hcl2:cs.length<2000000) (hc:∀ c∈cs,c.toNat<128) :
  ACall Go.Proofs.Tryd.prog 52 [.str s,.str cs] [] (fun r L'=>r=.str (stripS cs s)∧L'=[]):=by
 have h1:cs≠[]:=by rintro rfl;simp at hcl
 have h2:¬ cs.length=1:=by omega
 have h2':¬ (cs.length:Int)=1:=by omega
 have hz:=setL_nil
 refine acx func52 [(4,[zI 0,zI 1,zI 2,zI 4,zI 5,zI 3,zI 6,zI 7])] ntmps52 rfl rfl rfl ?_
 simp[hs,h1,h2,h2',← hz]
 refine qaj (by kernel_rfl) (asciiC cs hcl2 hc) (by simp) (by simp[setL_clL]) ?_
 simp
 refine⟨fun x hx=>?_,?_⟩
 ·simp only[setL,List.mem_map]at hx
  obtain⟨_,_,rfl⟩:=hx
  rfl
 refine qad [(1000,.whole 5)] (by kernel_rfl) (trimRC cs s hl) (by simp) (by simp) (by simp;exact⟨rfl,qac rfl (by simp[clR,setL_clL])⟩) (by simp) (by simp) ?_
 rintro r L' ⟨rfl,rfl⟩
 refine⟨[],⟨by simp,by simp,by simp,by simp,by simp⟩,?_⟩
 simp
 have hl2:((s.reverse.dropWhile (inS cs)).reverse).length<2000000:=by
  have:=(List.dropWhile_sublist (inS cs) (l:=s.reverse)).length_le
  simp at this ⊢;omega
 refine qad [(1000,.whole 5)] (by kernel_rfl) (trimLC cs _ hl2) (by simp) (by simp) (by simp;exact qac rfl (setOb_cl cs)) (by simp) (by simp) ?_
 rintro r L' ⟨rfl,rfl⟩
 refine⟨[],⟨by simp,by simp,by simp,by simp,by simp⟩,?_⟩
 simp[stripS]
end Go.Av.F
end
section
namespace Go.Av.F
open Go Go.Av
open Go.Proofs Go.Proofs.Tryd
attribute [-simp] getU hdS canon qae i64w
attribute [local simp] tt3 tt4 tt9 tt5 tt94 tt103
def abc:List UInt8:=[97,98,99,100,101,102,103,104,105,106,107,108,109,110,111,112,113,114,115,116,117,118,119,120,121,122]
theorem qbj {α:Type} (p:α→Bool):∀ l:List α,l.dropWhile p=[]↔l.all p=true
 | []=>by simp
 | a::r=>by
  cases h:p a <;> simp[List.dropWhile,h,qbj p r]
theorem dropWhile_head {α:Type} (p:α→Bool):∀ (l:List α) (a:α) (r:List α),l.dropWhile p=a::r→p a=false
 | [],a,r,h=>by simp at h
 | b::l,a,r,h=>by
  cases hb:p b with
  | true=>simp[List.dropWhile,hb]at h;exact dropWhile_head p l a r h
  | false=>simp[List.dropWhile,hb]at h;rw[← h.1];exact hb
theorem strip_nil (l s:List UInt8):stripS l s=[]↔s.all (inS l)=true:=by
 unfold stripS
 constructor
 ·intro h
  by_cases h2:(s.reverse.dropWhile (inS l))=[]
  ·have:=(qbj _ _).1 h2
   simpa using this
  ·exfalso
   have h3:=(qbj _ _).1 h
   cases h4:s.reverse.dropWhile (inS l)with
   | nil=>exact h2 h4
   | cons a r =>
    have h5:=dropWhile_head _ _ _ _ h4
    rw[h4]at h3
    simp[h5]at h3
 ·intro h
  have h2:s.reverse.dropWhile (inS l)=[]:=(qbj _ _).2 (by simpa using h)
  rw[h2];rfl
theorem inS_abc (c:UInt8):inS abc c=lowB c:=by
 have:∀ n:Fin 256,inS abc (UInt8.ofNat n)=lowB (UInt8.ofNat n):=by decide
 have h:=this ⟨c.toNat,c.toNat_lt⟩
 simpa using h
theorem ibookName (s:List UInt8) (hs:s.length<2000000):ACall Go.Proofs.Tryd.prog 37 [.str s] [] (fun r L'=>r=.bool (nameB s)∧L'=[]):=by
 refine acx func37 [] ntmps37 rfl rfl rfl ?_
 simp
 refine qaj (by kernel_rfl) (withinC s.length 1 6) (by simp) (by simp) ?_
 have hall:s.all (inS abc)=s.all lowB:=by congr 1;funext c;exact inS_abc c
 by_cases h1:1≤s.length∧s.length≤6
 ·have h2:s≠[]:=by rintro rfl;simp at h1
  have h3:(decide ((1:Int)≤s.length) && decide ((s.length:Int)≤6))=true:=by simp;omega
  rw[h3]
  simp
  refine qaj (by kernel_rfl) (trimC s abc hs h2 (by simp[abc]) (by simp[abc]) (by decide)) (by simp) (by simp) ?_
  have h4:(stripS abc s == [])=nameB s:=by
   have h5:(stripS abc s == [])=s.all lowB:=by
    cases h6:s.all lowB with
    | true=>rw[(strip_nil abc s).2 (by rw[hall];exact h6)];rfl
    | false =>
     have:stripS abc s≠[]:=fun e=>by
      have:=(strip_nil abc s).1 e
      rw[hall,h6]at this;cases this
     exact beq_false_of_ne this
   rw[h5];simp[nameB,h1.2];omega
  simp[h4]
 ·have h3:(decide ((1:Int)≤s.length) && decide ((s.length:Int)≤6))=false:=by simp;omega
  have h4:nameB s=false:=by
   simp only[nameB,Bool.and_eq_false_iff,decide_eq_false_iff_not];omega
  rw[h3]
  simp[h4]
end Go.Av.F
end
section
namespace Go.Av.F
open Go Go.Av
open Go.Proofs Go.Proofs.Tryd
attribute [-simp] getU hdS canon qae i64w
attribute [local simp] tt3 tt4 tt9 tt5 tt94 tt33 tt31 tt64 tt62 tt53 tt71
theorem longC (t:List UInt8):ACall Go.Proofs.Tryd.prog 39 [.str t] [] (fun r L'=>r=.bool (!short t)∧L'=[]):=by
 refine acx func39 [] ntmps39 rfl rfl rfl ?_
 by_cases h:t.length≤24
 ·have h2:¬ (24:Int)<t.length:=by omega
  simp[short,h,h2]
 ·have h2:(24:Int)<t.length:=by omega
  simp[short,h,h2]
def idxS {α:Type} (p:α→Bool) (bs:List α):Int:=match bs.findIdx? p with
 | some i=>i
 | none=>-1
theorem idxS_neg {α:Type} (p:α→Bool) (bs:List α):decide (0≤idxS p bs)=bs.any p:=by
 unfold idxS
 cases h:bs.findIdx? p with
 | none =>
  rw[List.findIdx?_eq_none_iff]at h
  have:bs.any p=false:=by rw[List.any_eq_false];intro x hx;simp[h x hx]
  simp[this]
 | some i =>
  have:bs.any p=true:=by
   have h2:=(List.findIdx?_eq_some_iff_getElem.1 h)
   obtain⟨hi,hp,_⟩:=h2
   rw[List.any_eq_true];exact⟨_,List.getElem_mem hi,hp⟩
  simp[this]
theorem idx_stepG {α:Type} (p:α→Bool):∀ (bs:List α) (i:Nat) (s:α),(∀ j,j<i→∀ y,bs[j]?=some y→p y=false)→bs[i]?=some s→p s=true→bs.findIdx? p=some i
 | [],i,s,_,h,_=>by simp at h
 | a::r,0,s,_,h,hp=>by
  simp only[List.getElem?_cons_zero,Option.some.injEq]at h
  subst h;simp[List.findIdx?_cons,hp]
 | a::r,i+1,s,hb,h,hp=>by
  have h0:p a=false:=hb 0 (by omega) a (by simp)
  have:=idx_stepG p r i s (fun j hj y hy=>hb (j+1) (by omega) y (by simpa using hy)) (by simpa using h) hp
  simp[List.findIdx?_cons,h0,this]
theorem idxSC (p:List UInt8→Bool) (g:Nat) (bs:List (List UInt8)) (hl:bs.length<2000000) (en:qcf Go.Proofs.Tryd.prog g=true)
  (hg:∀ s∈bs,ACall Go.Proofs.Tryd.prog g [.str s] [] (fun r L'=>r=.bool (p s)∧L'=[])) :
  ACall Go.Proofs.Tryd.prog 53 [.lst 1 (bs.map strRow),.fn g []] [] (fun r L'=>r=.int .i64 (idxS p bs)∧L'=[]):=by
 refine acx func53 [] ntmps53 rfl rfl rfl ?_
 simp
 refine qba (X:=Nat) [0,1,7,8] (fun i=>⟨mkT [(0,.lst 1 (bs.map strRow)),(1,.fn g []),(7,.int .i64 bs.length),(8,.int .i64 i)],hpOf [],Us.of []⟩) (fun i=>bs.length-i)
  (fun i=>i≤bs.length∧∀ j,j<i→∀ y,bs[j]?=some y→p y=false) 0 ⟨by simp,[],by simp[qae],by simp[canon]⟩ ?_
 rintro i ⟨hi,ha⟩
 by_cases h1:i<bs.length
 ·obtain⟨s,e0⟩:∃ s,bs[i]=s:=⟨_,rfl⟩
  have e1:bs[i]?=some s:=by rw[← e0];exact List.getElem?_eq_getElem h1
  have hsm:=List.mem_of_getElem? e1
  have e2:IntKind.i64.wrap ((i:Int)+1)=((i+1:Nat):Int):=by rw[qao _ (by omega)];omega
  simp[h1,e0,e1,strRow]
  refine qaj en (hg s hsm) (by simp) (by simp) ?_
  cases hp:p s with
  | true =>
   have:=idx_stepG p bs i s ha e1 hp
   simp[idxS,this]
  | false =>
   simp[e2]
   refine qax (i+1) (by omega) ⟨by omega,fun j hj y hy=>?_⟩ [] (by simp[qae]) (by simp[canon,strRow])
   by_cases hji:j=i
   ·subst hji;rw[e1]at hy;injection hy with hy;subst hy;exact hp
   ·exact ha j (by omega) y hy
 ·have hie:i=bs.length:=by omega
  have:bs.findIdx? p=none:=by
   rw[List.findIdx?_eq_none_iff]
   intro x hx
   obtain⟨j,hj,e⟩:=List.mem_iff_getElem.1 hx
   exact ha j (by omega) x (by rw[← e];exact List.getElem?_eq_getElem hj)
  subst hie
  simp[idxS,this]
theorem contSC (p:List UInt8→Bool) (g:Nat) (bs:List (List UInt8)) (hl:bs.length<2000000) (en:qcf Go.Proofs.Tryd.prog g=true)
  (hg:∀ s∈bs,ACall Go.Proofs.Tryd.prog g [.str s] [] (fun r L'=>r=.bool (p s)∧L'=[])) :
  ACall Go.Proofs.Tryd.prog 38 [.lst 1 (bs.map strRow),.fn g []] [] (fun r L'=>r=.bool (bs.any p)∧L'=[]):=by
 refine acx func38 [] ntmps38 rfl rfl rfl ?_
 simp
 refine qaj (by kernel_rfl) (idxSC p g bs hl en hg) (by simp) (by simp) ?_
 have:=idxS_neg p bs
 simp[this]
end Go.Av.F
end
section
namespace Go.Av.F
open Go Go.Av
open Go.Proofs Go.Proofs.Tryd
attribute [-simp] getU hdS canon qae i64w
attribute [local simp] tt3 tt4 tt9 tt5 tt94 tt33 tt31 tt64 tt62 tt53 tt71
theorem idxB_eq (p:BS→Bool) (bs:List BS):idxB p bs=idxS p bs:=rfl
theorem contC (p:BS→Bool) (g:Nat) (o:Ob) (bs:List BS) (hl:bs.length<2000000) (hB:∀ b∈bs,b.bl.length=8) (ho:∀ ρ,renOb ρ o=o) (hc:clR o.els=true) (en:qcf Go.Proofs.Tryd.prog g=true)
  (hg:∀ s∈bs,ACall Go.Proofs.Tryd.prog g [.agg (BS.row s),.ptr 1000 0 0] [(1000,o)] (fun r L'=>r=.bool (p s)∧L'=[(1000,o)])) :
  ACall Go.Proofs.Tryd.prog 40 [.lst 11 (bs.map BS.row),.fn g [.ptr 1000 0 0]] [(1000,o)] (fun r L'=>r=.bool (bs.any p)∧L'=[(1000,o)]):=by
 refine acx func40 [] ntmps40 rfl rfl rfl ?_
 simp
 refine qad [(1000,.whole 1000)] (by kernel_rfl) (idxC p g o bs hl hB ho hc en hg) (by simp) (by simp) (by simp;exact qac rfl hc) (by simp) (by simp) ?_
 rintro r L' ⟨rfl,rfl⟩
 refine⟨[],⟨by simp,by simp,by simp,by simp,by simp⟩,?_⟩
 have:=idxS_neg p bs
 rw[← idxB_eq]at this
 simp[ho,this]
theorem okF2C (bs:List BS) (s:BS) (hl:bs.length<2000000) (hB:∀ b∈bs,b.bl.length=8) (hs:s.bl.length=8) :
  ACall Go.Proofs.Tryd.prog 41 [.agg (BS.row s),.ptr 1000 0 0] [(1000,⟨1,[[.lst 11 (bs.map BS.row)]]⟩)] (fun r L'=>r=.bool (!leadsB bs bs.length s)∧L'=[(1000,⟨1,[[.lst 11 (bs.map BS.row)]]⟩)]):=by
 refine acx func41 [] ntmps41 rfl rfl rfl ?_
 simp[qag _ hs,qbm _ hs]
 refine qaj (by kernel_rfl) (leadsC bs s hl hB hs) (by simp[bk]) (by simp) ?_
 simp
def qbv (bs:List BS):Bool:=decide (bs.length≤6) && okAll bs && !(bs.any fun s=>!leadsB bs bs.length s)
theorem chunks1 (l:List (List UInt8)) (h:l.length=8):chunks 1 8 (l.map AV.str)=l.map strRow:=by
 match l,h with
 | [a,b,c,d,e,f,g,i],_=>rfl
theorem any_short (l:List (List UInt8)):(l.any fun t=>!short t)=!l.all short:=by
 rw[List.not_all_eq_any_not]
theorem ibookOkC (bs:List BS) (hl:bs.length<2000000) (hB:∀ b∈bs,b.bl.length=8) (hs:∀ b∈bs,b.name.length<2000000):ACall Go.Proofs.Tryd.prog 19 [bk bs] [] (fun r L'=>r=.bool (qbv bs)∧L'=[]):=by
 obtain⟨res,hres⟩:∃ res,qbv bs=res:=⟨_,rfl⟩
 rw[hres]
 by_cases h0:bs.length≤6
 ·have h0':¬ (6:Int)<bs.length:=by omega
  have h0'':(bs.length:Int)≤6:=by omega
  refine acx func19 [(6,[zI 0,zJ 1 [4] [],zI 2,zI 3,zI 4,zI 5,zI 6,zI 7,zI 8,zJ 9 [1] [],zJ 10 [] [1],zJ 11 [] [1],zI 12,zI 13,zI 14,zJ 15 [] [1],zJ 16 [4] [1],zI 17,zI 18,zI 19,zI 20,zI 21,zJ 22 [4] [],zI 23,zI 24,zI 25,zJ 26 [4] [],zI 27,zI 28,zI 29,zI 30,zI 31,zI 32,zI 33,zI 34])] ntmps19 rfl rfl rfl ?_
  simp[bk,h0',h0'']
  refine qba (X:=Nat) [1,10,11,12] (fun i=>⟨mkT [(1,.ptr 1 0 0),(10,.lst 11 (bs.map BS.row)),(11,.int .i64 bs.length),(12,.int .i64 i)],hpOf [(1,⟨1,[[.lst 11 (bs.map BS.row)]]⟩)],Us.of [1]⟩) (fun i=>bs.length-i)
   (fun i=>i≤bs.length∧∀ j,j<i→∀ s,bs[j]?=some s→okAt bs j s=true) 0 ⟨by simp,[(1,1)],by simp[qae],by simp[canon,obOf]⟩ ?_
  rintro i ⟨hi,ha⟩
  by_cases h1:i<bs.length
  ·obtain⟨s,e0⟩:∃ s,bs[i]=s:=⟨_,rfl⟩
   have e1:bs[i]?=some s:=by rw[← e0];exact List.getElem?_eq_getElem h1
   have hsm:s∈bs:=List.mem_of_getElem? e1
   have h8:=hB s hsm
   have e2:IntKind.i64.wrap ((i:Int)+1)=((i+1:Nat):Int):=by rw[qao _ (by omega)];omega
   have hbad:okAt bs i s=false→res=false:=fun h=>by rw[← hres,qbv,okAll_bad bs i s e1 h];simp
   have next:okAt bs i s=true→∀ j,j<i+1→∀ s,bs[j]?=some s→okAt bs j s=true:=fun hok j hj y hy=>by
    by_cases hji:j=i
    ·subst hji;rw[e1]at hy;injection hy with hy;subst hy;exact hok
    ·exact ha j (by omega) y hy
   have hfin:nameB s.name=true→okPrev bs i s=true→1≤s.kind→s.kind≤2→okAt bs i s=s.bl.all short:=fun h1 h2 h3 h4=>by
    simp only[okAt,h1,h2,h3,h4,Bool.true_and,decide_true];rfl
   simp[h1,e0,e1,qag _ h8,qbm _ h8]
   refine⟨row_all s,qaj (by kernel_rfl) (ibookName s.name (by have:=hs s hsm;omega)) (by simp) (by simp) ?_⟩
   cases hn:nameB s.name with
   | false=>simp[hbad (by simp[okAt,hn])]
   | true =>
    have hn':=hn
    have hpv:okPrev bs i s=false→res=false:=fun h=>hbad (by simp[okAt,h])
    have hk:¬ (s.kind=1∨s.kind=2)→res=false:=fun h=>hbad (by
     by_cases hk1:1≤s.kind
     ·have hk2:¬ s.kind≤2:=by omega
      simp[okAt,hk2]
     ·simp[okAt,hk1])
    by_cases hi0:i=0
    ·subst hi0
     simp
     refine⟨fun g1=>⟨fun g2=>?_,fun g2=>hk (by omega)⟩,fun g1=>?_⟩
     all_goals
      refine qcc (by kernel_rfl) (contSC (fun t=>!short t) 39 s.bl (by omega) (by kernel_rfl) (fun t _=>longC t)) (by simp[chunks1 _ h8,qag _ h8];intro _ _;rfl) (by simp) (by simp) ?_
      rw[any_short]
      cases hb:s.bl.all short with
      | false=>simp[hbad ((hfin hn' (by simp[okPrev]) (by omega) (by omega)).trans hb)]
      | true =>
       simp[show IntKind.i64.wrap 1=1 from rfl]
       exact qax (0+1) (by omega) ⟨by omega,next ((hfin hn' (by simp[okPrev]) (by omega) (by omega)).trans hb)⟩ [(1,1)] (by simp[qae]) (by simp[canon,obOf])
    ·obtain⟨m,hm⟩:∃ m,i=m+1:=⟨i-1,by omega⟩
     subst hm
     obtain⟨q,q0⟩:∃ q,bs[m]=q:=⟨_,rfl⟩
     have q1:bs[m]?=some q:=by rw[← q0];exact List.getElem?_eq_getElem (by omega)
     have q2:IntKind.i64.wrap (m:Int)=(m:Int):=by rw[qao _ (by omega)]
     have q3:m<bs.length:=by omega
     have q4:=qag q (hB q (List.mem_of_getElem? q1))
     have hbl:(Op.bytesLess s.name q.name || s.name == q.name)=!Op.bytesLess q.name s.name:=bytesLess_leq _ _
     have hbl2:(Op.bytesLess s.name q.name || q.name == s.name)=!Op.bytesLess q.name s.name:=by rw[← hbl,BEq.comm]
     cases hq:Op.bytesLess q.name s.name with
     | false =>
      have hrf:res=false:=hpv (by simp[okPrev,q1,hq])
      simp[q0,q1,q2,q3,hrf,q4,hbl,hbl2,hq]
     | true =>
      have hop:okPrev bs (m+1) s=true:=by simp[okPrev,q1,hq]
      have e2':IntKind.i64.wrap ((m:Int)+1+1)=(m:Int)+1+1:=qao _ (by omega)
      simp[q0,q1,q2,q3,q4,hbl,hbl2,hq]
      refine⟨fun g1=>⟨fun g2=>?_,fun g2=>hk (by omega)⟩,fun g1=>?_⟩
      all_goals
       refine qcc (by kernel_rfl) (contSC (fun t=>!short t) 39 s.bl (by omega) (by kernel_rfl) (fun t _=>longC t)) (by simp[chunks1 _ h8,qag _ h8];intro _ _;rfl) (by simp) (by simp) ?_
       rw[any_short]
       cases hb:s.bl.all short with
       | false=>simp[hbad ((hfin hn' hop (by omega) (by omega)).trans hb)]
       | true =>
        simp[e2']
        exact qax (m+1+1) (by omega) ⟨by omega,next ((hfin hn' hop (by omega) (by omega)).trans hb)⟩ [(1,1)] (by simp[qae]) (by simp[canon,obOf])
  ·have hie:i=bs.length:=by omega
   subst hie
   have hok:okAll bs=true:=by
    unfold okAll
    rw[List.all_eq_true]
    intro j hj
    have hj':j<bs.length:=by simpa using hj
    have hx:bs[j]?=some bs[j]:=List.getElem?_eq_getElem hj'
    rw[hx];exact ha j hj' _ hx
   simp
   refine qad [(1000,.whole 1)] (by kernel_rfl) (contC (fun s=>!leadsB bs bs.length s) 41 ⟨1,[[.lst 11 (bs.map BS.row)]]⟩ bs hl hB (by simp) (by simp) (by kernel_rfl) (fun s hsm=>okF2C bs s hl hB (hB s hsm))) (by simp) (by simp) (by simp;exact qac rfl (by simp)) (by simp) (by simp) ?_
   rintro r L' ⟨rfl,rfl⟩
   refine⟨[],⟨by simp,by simp,by simp,by simp,by simp⟩,?_⟩
   have:res=!(bs.any fun s=>!leadsB bs bs.length s):=by
    rw[← hres];simp only[qbv,hok,h0,decide_true,Bool.true_and]
   simp[this]
 ·have:res=false:=by rw[← hres];simp[qbv,h0]
  have h0':(6:Int)<bs.length:=by omega
  refine acx func19 [(6,[zI 0,zJ 1 [4] [],zI 2,zI 3,zI 4,zI 5,zI 6,zI 7,zI 8,zJ 9 [1] [],zJ 10 [] [1],zJ 11 [] [1],zI 12,zI 13,zI 14,zJ 15 [] [1],zJ 16 [4] [1],zI 17,zI 18,zI 19,zI 20,zI 21,zJ 22 [4] [],zI 23,zI 24,zI 25,zJ 26 [4] [],zI 27,zI 28,zI 29,zI 30,zI 31,zI 32,zI 33,zI 34])] ntmps19 rfl rfl rfl ?_
  simp[bk,h0',this]
end Go.Av.F
end
section
namespace Go.Av.F
open Go Go.Av
open Go.Proofs Go.Proofs.Tryd
attribute [-simp] getU hdS canon qae i64w
attribute [local simp] tt3 tt4 tt9 tt5 tt94 tt33 tt31 tt64 tt62 tt53 tt71
theorem overlapsC (o1 o2:Ob) (h1:o1.sz=11) (h2:o2.sz=11) (e1 len1 e2 len2:Nat) :
  ACall Go.Proofs.Tryd.prog 85 [.sl 1001 e1 len1,.sl 1000 e2 len2] [(1000,o2),(1001,o1)] (fun r L'=>r=.bool false∧L'=[(1000,o2),(1001,o1)]) :=
 overlapsA (tS:=31) (tR:=4) (e:=64) Go.Proofs.Tryd.func85 (by kernel_rfl) (by kernel_rfl) (by kernel_rfl) (by kernel_rfl) tt31 rfl tt64 (by simp) o1 o2 h1 h2 e1 len1 e2 len2
theorem spl_take (els:List (List AV)) (k:Nat) (ys:List (List AV)) (h:k≤els.length):(spl els k ys).take (k+ys.length)=els.take k++ys:=by
 unfold spl
 rw[← List.append_assoc,List.take_append_of_le_length (by simp;omega),List.take_of_length_le (by simp;omega)]
theorem renR_cl (ρ:Nat→Option Plc):∀ {els:List (List AV)},clR els=true→els.map (renL ρ)=els
 | [],_=>rfl
 | a::r,h=>by
  simp only[clR,List.all_cons,Bool.and_eq_true]at h
  rw[List.map_cons,renL_closed.renL_closedL ρ a h.1,renR_cl ρ (els:=r) (by simpa [clR]using h.2)]
theorem spl_at (els:List (List AV)) (k:Nat) (ys:List (List AV)) (h:k≤els.length):(spl els k ys).take k=els.take k∧(spl els k ys).drop k=ys++els.drop (k+ys.length):=by
 unfold spl
 constructor
 ·rw[List.take_append_of_le_length (by simp;omega),List.take_take,Nat.min_self]
 ·rw[List.drop_append_of_le_length (by simp;omega),List.drop_of_length_le (by simp;omega),List.nil_append]
theorem ins_shift (els rows:List (List AV)) (row:List AV) (i:Nat) (het:els.take rows.length=rows) (hn:rows.length+1≤els.length) (hi:i<rows.length) :
  (spl (spl els (i+1) (rows.drop i)) i [row]).take (rows.length+1)=rows.take i++row::rows.drop i:=by
 obtain⟨h1,h2⟩:=spl_at els (i+1) (rows.drop i) (by omega)
 have h3:(spl els (i+1) (rows.drop i)).take i=rows.take i:=by
  have:((spl els (i+1) (rows.drop i)).take (i+1)).take i=(els.take (i+1)).take i:=by rw[h1]
  rw[List.take_take,List.take_take,Nat.min_eq_left (by omega)]at this
  rw[this]
  conv=>rhs;rw[← het]
  rw[List.take_take,Nat.min_eq_left (by omega)]
 rw[show spl (spl els (i+1) (rows.drop i)) i [row]=(spl els (i+1) (rows.drop i)).take i++([row]++(spl els (i+1) (rows.drop i)).drop (i+1)) from rfl,h3,h2]
 rw[show rows.take i++([row]++(rows.drop i++els.drop (i+1+(rows.drop i).length)))=(rows.take i++row::rows.drop i)++els.drop (i+1+(rows.drop i).length) by simp]
 rw[List.take_append_of_le_length (by simp;omega),List.take_of_length_le (by simp;omega)]
theorem ins_grow (rows:List (List AV)) (row z:List AV) (i:Nat) (hi:i<rows.length) :
  spl (spl (rows.take i++List.replicate (rows.length+1-i) z) i [row]) (i+1) (rows.drop i)=rows.take i++row::rows.drop i:=by
 have hl:(rows.take i++List.replicate (rows.length+1-i) z).length=rows.length+1:=by simp;omega
 obtain⟨h1,h2⟩:=spl_at (rows.take i++List.replicate (rows.length+1-i) z) i [row] (by omega)
 have hl2:=qbq (rows.take i++List.replicate (rows.length+1-i) z) i [row] (by omega)
 have h3:(rows.take i++List.replicate (rows.length+1-i) z).take i=rows.take i:=by
  rw[List.take_append_of_le_length (by simp;omega),List.take_take,Nat.min_self]
 have h4:=spl_take (rows.take i++List.replicate (rows.length+1-i) z) i [row] (by omega)
 rw[h3]at h4
 simp only[List.length_cons,List.length_nil,Nat.zero_add]at h4
 generalize spl (rows.take i++List.replicate (rows.length+1-i) z) i [row]=X at *
 have h5:X.length=rows.length+1:=by rw[hl2,hl];simp;omega
 unfold spl
 rw[h4,List.drop_of_length_le (l:=X) (by simp;omega)]
 simp
def insR (rows:List (List AV)) (row:List AV) (i:Nat):List (List AV):=rows.take i++row::rows.drop i
def insQ (sz:Nat) (a b:Nat) (rows:List (List AV)) (row:List AV) (i:Nat) (r:AV) (L':List (Nat×Ob)):Prop :=
 ∃ id,(id=1000∨id=a∨id=b)∧r=.sl id 0 (rows.length+1)∧L'=[(id,⟨sz,insR rows row i⟩)]
theorem insertC (rows:List (List AV)) (row:List AV) (i:Nat) (hi:i≤rows.length) (hl:rows.length<2000000) (hrow:row.length=11) (hr1:∀ r∈rows,r.length=11) (ho:row.all oneA=true) (hro:rows.all (fun r=>r.all oneA)=true)
  (hc:clL row=true) (hrc:clR rows=true) :
  ACall Go.Proofs.Tryd.prog 76 [.sl 1000 0 rows.length,.int .i64 i,.sl 1001 0 1] [(1000,⟨11,rows⟩),(1001,⟨11,[row]⟩)] (insQ 11 25 40 rows row i):=by
 refine ACall.weak (R:=fun r L'=>∃ L2,wkL L' L2∧insQ 11 25 40 rows row i (unc r) L2) (ACall.cap (by simp) fun cap hcap=>?_) (fun r L' h=>h)
 obtain⟨els,hels⟩:∃ els,(capOb ⟨11,rows⟩ cap)=⟨11,els⟩:=⟨_,rfl⟩
 have hel:els.length=cap:=by
  have:=congrArg (fun o:Ob=>o.els.length) hels
  simp[capOb]at this;omega
 have het:els.take rows.length=rows:=by
  have:=congrArg (fun o:Ob=>o.els.take rows.length) hels
  simp[capOb]at this;exact this.symm
 have hcl:clR els=true:=by
  have:=congrArg (fun o:Ob=>clR o.els) hels
  simp only[capOb]at this
  rw[← this]
  simp only[clR,List.all_append,Bool.and_eq_true]at hrc ⊢
  refine⟨hrc,?_⟩
  rw[List.all_eq_true];intro x hx;rw[List.eq_of_mem_replicate hx];rfl
 have hm:∀ ρ,els.map (renL ρ)=els:=fun ρ=>renR_cl ρ hcl
 have hm2:∀ ρ,renL ρ row=row:=fun ρ=>renL_closed.renL_closedL ρ row hc
 rw[hels]
 clear hels
 have w1:IntKind.i64.wrap ((rows.length:Int)+1)=(rows.length:Int)+1:=qao _ (by omega)
 refine acx func76 [(11,[zI 0,zI 1,zI 2,zI 3,zJ 4 [40,1000] [],zJ 5 [] [40,1000],zJ 6 [] [40,1000],zJ 7 [40,1000] [40,1000],zI 8]),(15,[zI 0,zI 1,zI 2,zI 3,zJ 4 [1000] [],zJ 5 [] [1000],zJ 6 [] [1000],zJ 7 [1000] [1000],zI 8])] ntmps76 rfl rfl rfl ?_
 have e1:rows.take rows.length=rows:=List.take_length
 by_cases h1:i=rows.length
 ·subst h1
  by_cases h2:rows.length+1≤cap
  ·simp[h2,hrow,hel,hcap]
   refine⟨by simpa using ho,[(1000,⟨11,spl els rows.length [row]⟩)],by simp,_,.cons 1000 _ (rows.length+1) .nil,1000,.inl rfl,rfl,?_⟩
   have:=spl_take els rows.length [row] (by omega)
   simp only[List.length_cons,List.length_nil,Nat.zero_add]at this
   simp[insR,this,het]
  ·simp[h2,hrow,hel,hcap,het]
   refine⟨by omega,[(25,⟨11,rows++[row]⟩)],by simp,_,.cons 25 _ (rows.length+1) .nil,25,.inr (.inl rfl),rfl,?_⟩
   rw[List.take_of_length_le (by simp)]
   simp[insR]
 ·have hi':i<rows.length:=by omega
  have h1':¬ (i:Int)=rows.length:=by omega
  have w2:IntKind.i64.wrap ((i:Int)+1)=((i+1:Nat):Int):=by rw[qao _ (by omega)];omega
  have w4:IntKind.i64.wrap ((rows.length:Int)+1-(i:Int))=((rows.length+1-i:Nat):Int):=by rw[qao _ (by omega)];omega
  have hall:∀ x∈rows,∀ y∈x,oneA y=true:=fun x hx y hy=>List.all_eq_true.1 (List.all_eq_true.1 hro x hx) y hy
  have g1:rows.length+1≤cap→min (rows.length+1-i) (min (cap-i) (rows.length-i))=rows.length-i:=fun _=>by omega
  have g2:min 1 (rows.length+1-i)=1:=by omega
  have g5:(els.drop i).take (rows.length-i)=rows.drop i:=by
   conv=>rhs;rw[← het]
   rw[List.drop_take]
  have g3:List.take (rows.length-i) (List.take (rows.length+1-i) (List.drop i els))=rows.drop i:=by
   rw[List.take_take,Nat.min_eq_left (by omega),g5]
  by_cases h2:rows.length+1≤cap
  ·have g1:=g1 h2
   have h2':¬ (cap:Int)<(rows.length:Int)+1:=by omega
   simp[h1,h1',h2,h2',hrow,hel,hcap,w1,w2,w4]
   refine⟨by omega,by omega,⟨by omega,by omega⟩,?_⟩
   refine qad [(1000,.whole 1000),(1001,.whole 1001)] (by kernel_rfl) (overlapsC ⟨11,[row]⟩ ⟨11,els⟩ rfl rfl 0 1 (i+1) (rows.length-i)) (by simp) (by simp) (by simp;exact⟨qac rfl hcl,qac rfl (by simp[clR,hc])⟩) (by simp) (by simp) ?_
   rintro r L' ⟨rfl,rfl⟩
   refine⟨[],⟨by simp,by simp,by simp,by simp,by simp⟩,?_⟩
   simp[hm,hm2,w2,hel,hrow]
   rw[g1,g2,g3,List.take_of_length_le (by simp:[row].length≤1)]
   have g4:=qbq els (i+1) (rows.drop i) (by omega)
   refine⟨⟨by omega,by omega,by omega⟩,⟨by omega,by omega⟩,⟨by omega,by omega,fun x hx y hy=>hall x (List.mem_of_mem_drop hx) y hy⟩,⟨by omega,by omega⟩,⟨by simp at g4;omega,fun x hx y hy=>?_⟩,
    [(1000,⟨11,spl (spl els (i+1) (rows.drop i)) i [row]⟩)],by simp,_,.cons 1000 _ (rows.length+1) .nil,1000,.inl rfl,rfl,?_⟩
   ·have:x=row:=by simpa using hx
    subst this;exact List.all_eq_true.1 ho y hy
   ·rw[ins_shift els rows row i het (by omega) hi'];rfl
  ·have h2':(cap:Int)<(rows.length:Int)+1:=by omega
   simp[h1,h1',h2,h2',hrow,hel,hcap,w1,w2,w4]
   have c1:cap=rows.length:=by omega
   subst c1
   have g6:min (rows.length-i) (min (rows.length-i) (i+(rows.length+1-i)-(i+1)))=rows.length-i:=by omega
   have g7:List.take (rows.length-i) (rows.drop i)=rows.drop i:=List.take_of_length_le (by simp)
   have g8:i+(rows.length+1-i)=rows.length+1:=by omega
   have g9:els.take i=rows.take i:=by
    conv=>rhs;rw[← het]
    rw[List.take_take,Nat.min_eq_left (by omega)]
   rw[g6,g2,g5,g7,List.take_of_length_le (by simp:[row].length≤1),g8,g9,ins_grow rows row _ i hi']
   refine⟨by omega,by omega,⟨by omega,by omega,by omega,by omega⟩,⟨by omega,fun x hx y hy=>?_⟩,⟨by omega,by omega⟩,by omega,⟨by omega,?_,fun x hx y hy=>hall x (List.mem_of_mem_drop hx) y hy⟩,
    [(40,⟨11,rows.take i++row::rows.drop i⟩)],by simp,_,.cons 40 _ (rows.length+1) .nil,40,.inr (.inr rfl),rfl,?_⟩
   ·have:x=row:=by simpa using hx
    subst this;exact List.all_eq_true.1 ho y hy
   ·rw[qbq _ _ _ (by simp;omega)];simp;omega
   ·have g10:(rows.take i++row::rows.drop i).take (rows.length+1)=rows.take i++row::rows.drop i:=List.take_of_length_le (by simp;omega)
    simp only[g10];rfl
end Go.Av.F
end
section
namespace Go.Av.F
open Go Go.Av
open Go.Proofs Go.Proofs.Tryd
attribute [-simp] getU hdS canon qae i64w
attribute [local simp] tt3 tt4 tt9 tt5 tt94 tt33 tt31 tt64 tt62 tt53 tt71
theorem del_rows (els rows:List (List AV)) (z:List (List AV)) (i j:Nat) (het:els.take rows.length=rows) (hn:rows.length≤els.length) (hij:i<j) (hj:j≤rows.length) :
  (spl (spl els i (rows.drop j)) (i+(rows.length-j)) z).take (i+(rows.length-j))=rows.take i++rows.drop j:=by
 have h1:=spl_take els i (rows.drop j) (by omega)
 have h2:=qbq els i (rows.drop j) (by omega)
 obtain⟨h3,_⟩:=spl_at (spl els i (rows.drop j)) (i+(rows.length-j)) z (by rw[h2];simp;omega)
 rw[h3]
 simp only[List.length_drop]at h1
 rw[h1]
 congr 1
 conv=>rhs;rw[← het]
 rw[List.take_take,Nat.min_eq_left (by omega)]
theorem deleteC (rows:List (List AV)) (i j:Nat) (hij:i<j) (hj:j≤rows.length) (hl:rows.length<2000000) (hr1:∀ r∈rows,r.length=11) (hro:rows.all (fun r=>r.all oneA)=true) :
  ACall Go.Proofs.Tryd.prog 59 [.sl 1000 0 rows.length,.int .i64 i,.int .i64 j] [(1000,⟨11,rows⟩)] (fun r L'=>r=.sl 1000 0 (i+(rows.length-j))∧L'=[(1000,⟨11,rows.take i++rows.drop j⟩)]):=by
 refine ACall.weak (R:=fun r L'=>∃ L2,wkL L' L2∧unc r=.sl 1000 0 (i+(rows.length-j))∧L2=[(1000,⟨11,rows.take i++rows.drop j⟩)]) (ACall.cap (by simp) fun cap hcap=>?_) (fun r L' h=>h)
 obtain⟨els,hels⟩:∃ els,(capOb ⟨11,rows⟩ cap)=⟨11,els⟩:=⟨_,rfl⟩
 have hel:els.length=cap:=by
  have:=congrArg (fun o:Ob=>o.els.length) hels
  simp[capOb]at this;omega
 have het:els.take rows.length=rows:=by
  have:=congrArg (fun o:Ob=>o.els.take rows.length) hels
  simp[capOb]at this;exact this.symm
 rw[hels]
 clear hels
 have g5:(els.drop j).take (rows.length-j)=rows.drop j:=by
  conv=>rhs;rw[← het]
  rw[List.drop_take]
 have hall:∀ x∈rows,∀ y∈x,oneA y=true:=fun x hx y hy=>List.all_eq_true.1 (List.all_eq_true.1 hro x hx) y hy
 have h1:¬ i=j:=by omega
 have h1':¬ (i:Int)=j:=by omega
 have h2:i+(rows.length-j)≤cap:=by omega
 refine acx func59 [(5,[zI 0,zI 1,zJ 2 [1000] [],zJ 3 [] [1000],zJ 4 [] [1000],zJ 5 [1000] [1000],zI 6,zI 7])] ntmps59 rfl rfl rfl ?_
 simp[h1,h1',hel,g5,h2,hcap]
 have t1:((i:Int)+((rows.length-j:Nat):Int)).toNat=i+(rows.length-j):=by omega
 have h3:=qbq els i (rows.drop j) (by omega)
 rw[t1]
 refine⟨⟨by omega,by omega⟩,by omega,by omega,⟨by omega,by omega,fun x hx y hy=>hall x (List.mem_of_mem_drop hx) y hy⟩,⟨by omega,by omega⟩,?_,[(1000,⟨11,spl (spl els i (rows.drop j)) (i+(rows.length-j)) (List.replicate (rows.length-(i+(rows.length-j))) _)⟩)],⟨rfl,trivial⟩,?_⟩
 ·rw[h3];simp;omega
 ·have:=wkL.cons 1000 ⟨11,spl (spl els i (rows.drop j)) (i+(rows.length-j)) (List.replicate (rows.length-(i+(rows.length-j))) [.str [],.int .i64 0,.str [],.str [],.str [],.str [],.str [],.str [],.str [],.str [],.str []])⟩ (i+(rows.length-j)) .nil
  simp only[del_rows els rows _ i j het (by omega) hij hj]at this
  exact this
end Go.Av.F
end
section
namespace Go.Av.F
open Go Go.Av
open Go.Proofs Go.Proofs.Tryd
attribute [-simp] getU hdS canon qae i64w
attribute [local simp] tt3 tt4 tt9 tt5 tt94 tt33 tt31 tt64 tt62 tt53 tt71
theorem cloneC2 (bs:List BS) (hl:bs.length<2000000):ACall Go.Proofs.Tryd.prog 43 [.lst 11 (bs.map BS.row)] [] (fun r L'=>r=.sl 7 0 bs.length∧L'=[(7,bkOb bs)]):=by
 refine ACall.nils (id:=7) (sz:=11) (cloneC bs hl) (by simp) ?_
 rintro r L' (⟨rfl,rfl,rfl⟩ | ⟨rfl,rfl⟩)
 ·exact .inr ⟨rfl,rfl,rfl⟩
 ·exact .inl ⟨rfl,rfl⟩
theorem ownC2 (bs:List BS) (hl:bs.length<2000000):ACall Go.Proofs.Tryd.prog 21 [bk bs] [] (fun r L'=>r=.agg [.sl 900 0 bs.length]∧L'=[(900,bkOb bs)]):=by
 refine acx func21 [] ntmps21 rfl rfl rfl ?_
 simp[bk]
 refine qad [] (by kernel_rfl) (cloneC2 bs hl) (by simp) (by simp) (by simp) (by simp) (by simp) ?_
 rintro r L' ⟨rfl,rfl⟩
 refine⟨[(7,900)],⟨by simp,by simp,by simp,by simp,by simp⟩,?_⟩
 simp
def qcb (bs:List BS) (name:List UInt8):Int:=if nameB name=false then 5 else if atB bs name=true then 2 else if bs.length=6 then 4 else 0
theorem createsC (bs:List BS) (name:List UInt8) (hl:bs.length<2000000) (hB:∀ b∈bs,b.bl.length=8) (hS:Srt bs) (hn:name.length<2000000) :
  ACall Go.Proofs.Tryd.prog 75 [bk bs,.str name] [] (fun r L'=>r=.int .i64 (qcb bs name)∧L'=[]):=by
 refine acx func75 [] ntmps75 rfl rfl rfl ?_
 simp[bk]
 refine qaj (by kernel_rfl) (placeC bs name hl hB hS) (by simp[bk]) (by simp) ?_
 simp
 refine qaj (by kernel_rfl) (ibookName name hn) (by simp) (by simp) ?_
 cases h1:nameB name with
 | false=>simp[qcb,h1]
 | true =>
  cases h2:atB bs name with
  | true=>simp[qcb,h1,h2]
  | false =>
   by_cases h3:bs.length=6
   ·simp[qcb,h1,h2,h3]
   ·have h3':¬ (bs.length:Int)=6:=by omega
    simp[qcb,h1,h2,h3,h3']
@[simp] theorem row_comp (ρ:Nat→Option Plc):(renL ρ ∘ BS.row)=BS.row:=funext fun b=>row_ren ρ b
def ptrOb (id n:Nat):Ob:=⟨1,[[.sl id 0 n]]⟩
def ptrL (id:Nat) (bs:List BS):List (Nat×Ob):=[(1000,ptrOb id bs.length),(id,bkOb bs)]
def addQ (xs:List Nat) (res:List BS×Int) (r:AV) (L':List (Nat×Ob)):Prop:=∃ id,id∈xs∧r=.int .i64 res.2∧L'=ptrL id res.1
theorem addC (bs:List BS) (s:BS) (hl:bs.length<2000000) (hB:∀ b∈bs,b.bl.length=8) (hS:Srt bs) (hs:s.bl.length=8) (hn:s.name.length<2000000) :
  ACall Go.Proofs.Tryd.prog 56 [.ptr 1000 0 0,.agg (BS.row s)] (ptrL 1001 bs) (addQ [1001,901] (newB bs s)):=by
 refine acx func56 [(1,[zI 0,zI 1,zJ 2 [1000] [],zJ 3 [] [1000],zJ 4 [3] [1000],zI 5,zI 6]),(3,[zI 0,zI 1,zJ 2 [1000] [],zJ 3 [] [1000],zJ 4 [3] [1000],zI 5,zI 6,zI 7,zI 8,zI 9,zI 10]),(4,[zI 0,zI 1,zI 2,zI 3,zJ 4 [1000] [],zJ 5 [] [1000],zJ 6 [3] [1000],zJ 7 [] [1000],zI 8,zI 9,zI 10,zI 11])] ntmps56 rfl rfl rfl ?_ (ha:=by simp[ptrL]) (hL:=by simp[ptrL])
 simp[ptrL,ptrOb,qag _ hs]
 refine qcc (by kernel_rfl) (createsC bs s.name hl hB hS hn) (by simp[bk]) (by simp) (by simp) ?_
 by_cases h0:qcb bs s.name=0
 ·have hk:atP bs s.name≤bs.length:=by unfold atP;exact(List.takeWhile_sublist _).length_le
  have hnew:newB bs s=(bs.take (atP bs s.name)++s::bs.drop (atP bs s.name),0):=by
   unfold qcb at h0
   unfold newB
   split at h0
   ·cases h0
   ·split at h0
    ·cases h0
    ·split at h0
     ·cases h0
     ·rename_i h1 h2 h3
      rw[if_neg h1,if_neg h2,if_neg h3]
  rw[hnew]
  simp[h0]
  refine qcc (by kernel_rfl) (placeC bs s.name hl hB hS) (by simp[bk]) (by simp) (by simp) ?_
  generalize atP bs s.name=k at hk
  simp[qag _ hs,qbm _ hs]
  have hall:∀ r∈bs.map BS.row,r.length=11:=fun r hr=>by
   obtain⟨b,hb,rfl⟩:=List.mem_map.1 hr
   exact qag b (hB b hb)
  have hone:(bs.map BS.row).all (fun r=>r.all oneA)=true:=List.all_eq_true.2 fun r hr=>bk_all1 bs r hr
  have hI:=insertC (bs.map BS.row) (BS.row s) k (by simpa using hk) (by simpa using hl) (qag s hs) hall (row_one s) hone (row_cl s) (clR_bk bs)
  simp only[List.length_map]at hI
  refine qad [(1000,.whole 1001),(1001,.whole 32)] (by kernel_rfl) hI (by simp) (by simp) (by simp[bkOb];exact⟨qac rfl (by simp),qac rfl (by simp[clR])⟩) (by simp) (by simp) ?_
  have hrows:insR (bs.map BS.row) (BS.row s) k=(bs.take k++s::bs.drop k).map BS.row:=by
   simp[insR]
  have hlen:(bs.take k++s::bs.drop k).length=bs.length+1:=by simp;omega
  rintro r L' ⟨id,hid,rfl,rfl⟩
  rw[hrows]
  simp only[List.length_map]
  generalize bs.take k++s::bs.drop k=bs' at hlen
  rcases hid with rfl | rfl | rfl
  ·refine⟨[],⟨by simp,by simp,by simp,by simp,by simp⟩,?_⟩
   simp
   exact⟨ptrL 1001 bs',by simp[ptrL,ptrOb,bkOb,hlen],1001,by simp,rfl,rfl⟩
  ·refine⟨[(25,901)],⟨by simp,by simp,by simp,by simp,by simp⟩,?_⟩
   simp
   exact⟨ptrL 901 bs',by simp[ptrL,ptrOb,bkOb,hlen],901,by simp,rfl,rfl⟩
  ·refine⟨[(40,901)],⟨by simp,by simp,by simp,by simp,by simp⟩,?_⟩
   simp
   exact⟨ptrL 901 bs',by simp[ptrL,ptrOb,bkOb,hlen],901,by simp,rfl,rfl⟩
 ·have hnew:newB bs s=(bs,qcb bs s.name):=by
   unfold qcb newB
   unfold qcb at h0
   split
   ·rfl
   ·split
    ·rfl
    ·split
     ·rfl
     ·rename_i h1 h2 h3;rw[if_neg h1,if_neg h2,if_neg h3]at h0;exact absurd rfl h0
  rw[hnew]
  simp[h0]
  exact⟨ptrL 1001 bs,by simp[ptrL,ptrOb],1001,by simp,rfl,rfl⟩
end Go.Av.F
end
section
namespace Go.Av.F
open Go Go.Av
open Go.Proofs Go.Proofs.Tryd
attribute [-simp] getU hdS canon qae i64w
attribute [local simp] tt3 tt4 tt9 tt5 tt94 tt33 tt31 tt64 tt62 tt53 tt71
def opOb (o:BO):Ob:=⟨5,[BO.row o]⟩
@[simp] theorem bo_ren (ρ:Nat→Option Plc) (o:BO):renL ρ (BO.row o)=BO.row o:=by simp[BO.row]
@[simp] theorem opOb_ren (ρ:Nat→Option Plc) (o:BO):renOb ρ (opOb o)=opOb o:=by simp[opOb]
theorem opOb_cl (o:BO):clR (opOb o).els=true:=by simp[opOb,clR,BO.row]
theorem doF1C (o:BO) (x:BS) (hx:x.bl.length=8):ACall Go.Proofs.Tryd.prog 58 [.agg (BS.row x),.ptr 1000 0 0] [(1000,opOb o)] (fun r L'=>r=.bool (x.frm == o.a)∧L'=[(1000,opOb o)]):=by
 refine acx func58 [] ntmps58 rfl rfl rfl ?_
 simp[opOb,BO.row,qag _ hx]
theorem idoC (bs:List BS) (o:BO) (hl:bs.length<2000000) (hB:∀ b∈bs,b.bl.length=8) (hS:Srt bs) (ho:o.a.length<2000000∧o.b.length<2000000) :
  ACall Go.Proofs.Tryd.prog 44 [.ptr 1000 0 0,.agg (BO.row o)] (ptrL 1001 bs) (addQ [1001,902] (doB bs o)):=by
 refine acx func44 [(3,[zI 0,zI 1,zJ 2 [1000] [],zJ 3 [] [1000],zJ 4 [3] [1000],zI 5,zI 6,zI 7,zI 8,zI 9,zI 10]),(25,[zI 0,zI 1,zJ 2 [3] [],zJ 3 [] [3],zJ 4 [3] [3],zJ 5 [] [3],zJ 6 [] [3],zI 7,zI 8]),(33,[zI 0,zI 1,zJ 2 [3] [],zJ 3 [] [3],zJ 4 [] [3],zJ 5 [3] [3],zJ 6 [] [3],zJ 7 [] [3],zJ 8 [] [3],zJ 9 [1001] [3],zI 10,zI 11,zI 12]),(10,[zI 0,zI 1,zJ 2 [1000] [],zJ 3 [] [1000],zJ 4 [3] [1000],zI 5,zI 6,zI 7,zI 8,zI 9,zI 10]),(13,[zI 0,zI 1,zI 2,zJ 3 [1001] [],zI 4,zI 5,zI 6,zI 7,zI 8,zJ 9 [1000] [],zJ 10 [] [1000],zJ 11 [1001] [],zI 12,zJ 13 [1001] [],zI 14,zI 15,zI 16,zI 17,zI 18,zI 19,zJ 20 [1000] [],zJ 21 [] [1000],zJ 22 [1001] [],zI 23,zJ 24 [1001] [],zJ 25 [] [1000,1001],zJ 26 [3] [1000,1001],zI 27,zI 28,zI 29])] ntmps44 rfl rfl rfl ?_ (ha:=by simp[ptrL]) (hL:=by simp[ptrL])
 by_cases g1:o.kind=1
 ·have f1:doB bs o=newB bs ⟨o.a,1,[],zbl⟩:=by simp[doB,g1]
  rw[f1]
  have hc:=addC bs ⟨o.a,1,[],zbl⟩ hl hB hS rfl ho.1
  generalize newB bs ⟨o.a,1,[],zbl⟩=res at hc
  simp[ptrL,ptrOb,BO.row,g1]
  refine qad [(1000,.whole 1000),(1001,.whole 1001)] (by kernel_rfl) hc (by simp[BS.row,zbl]) (by simp) (by simp[ptrL,ptrOb,bkOb];exact⟨.inr ⟨_,_,rfl,rfl,by simp⟩,qac rfl (by simp)⟩) (by simp[ptrL]) (by simp) ?_
  rintro r L' ⟨id,hid,rfl,rfl⟩
  simp only[List.mem_cons,List.not_mem_nil,or_false]at hid
  rcases hid with rfl | rfl
  ·refine⟨[],⟨by simp[ptrL],by simp,by simp,by simp[ptrL],by simp⟩,?_⟩
   simp[ptrL,ptrOb]
   exact⟨ptrL 1001 res.1,by simp[ptrL,ptrOb],1001,by simp,rfl,rfl⟩
  ·refine⟨[(901,902)],⟨by simp[ptrL],by simp,by simp,by simp[ptrL],by simp⟩,?_⟩
   simp[ptrL,ptrOb]
   exact⟨ptrL 902 res.1,by simp[ptrL,ptrOb],902,by simp,rfl,rfl⟩
 simp[ptrL,ptrOb,BO.row,g1]
 refine qcc (by kernel_rfl) (placeC bs o.a hl hB hS) (by simp[bk]) (by simp) (by simp) ?_
 simp
 refine qaj (by kernel_rfl) (withinC o.kind 1 6) (by simp) (by simp) ?_
 by_cases g2:1≤o.kind∧o.kind≤6
 rotate_left
 ·have f1:doB bs o=(bs,5):=by
   have:o.kind<1∨6<o.kind:=by omega
   simp[doB,g1,this]
  have g2':(decide (1≤o.kind) && decide (o.kind≤6))=false:=by simp;omega
  rw[g2',f1]
  simp
  exact⟨ptrL 1001 bs,by simp[ptrL,ptrOb],1001,by simp,rfl,rfl⟩
 have g2':(decide (1≤o.kind) && decide (o.kind≤6))=true:=by simp;omega
 have g2n:¬ (o.kind<1∨6<o.kind):=by omega
 rw[g2']
 cases h1:atB bs o.a with
 | false =>
  have f1:doB bs o=(bs,1):=by simp[doB,g1,g2n,h1]
  rw[f1]
  simp
  exact⟨ptrL 1001 bs,by simp[ptrL,ptrOb],1001,by simp,rfl,rfl⟩
 | true =>
  obtain⟨t,ht,htn⟩:=atB_some h1
  obtain⟨k,hk⟩:∃ k,atP bs o.a=k:=⟨_,rfl⟩
  rw[hk]at ht
  have hkl:=(List.getElem?_eq_some_iff.1 ht).1
  have hk0:bs[k]=t:=(List.getElem?_eq_some_iff.1 ht).2
  have htm:=List.mem_of_getElem? ht
  have ht8:=hB t htm
  have hall:∀ r∈bs.map BS.row,r.length=11:=fun r hr=>by
   obtain⟨b,hb,rfl⟩:=List.mem_map.1 hr
   exact qag b (hB b hb)
  have hone:(bs.map BS.row).all (fun r=>r.all oneA)=true:=List.all_eq_true.2 fun r hr=>bk_all1 bs r hr
  simp[hk,hkl]
  have t8:List.take 8 (List.map AV.str t.bl)=t.bl.map AV.str:=List.take_of_length_le (by simp[ht8])
  have m8:min 8 t.bl.length=8:=by omega
  by_cases g4:o.kind=2
  ·have f1:doB bs o=killB bs k:=by simp[doB,h1,hk,ht,g4]
   have f2:killB bs k=if bs.any (fun b=>b.frm == o.a)=true then (bs,6) else (bs.take k++bs.drop (k+1),0):=by simp only[killB,ht,htn]
   have e2:IntKind.i64.wrap ((k:Int)+1)=((k+1:Nat):Int):=by rw[qao _ (by omega)];omega
   simp[g4]
   refine callA_vw [(1000,.whole 3)] (by kernel_rfl) (contC (fun x=>x.frm == o.a) 58 (opOb o) bs hl hB (fun ρ=>opOb_ren ρ o) (opOb_cl o) (by kernel_rfl) (fun x hx=>doF1C o x (hB x hx))) (by simp) (by simp) (by simp[opOb];exact qac (by simp[BO.row,g4]) (by simp[clR])) (by simp) (by simp) ?_
   rintro r L' ⟨rfl,rfl⟩
   refine⟨by simp,by simp[opOb,BO.row],[],⟨by simp,by simp,by simp,by simp,by simp⟩,?_⟩
   cases hany:bs.any (fun b=>b.frm == o.a)with
   | true =>
    have f3:doB bs o=(bs,6):=by rw[f1,f2,hany];rfl
    rw[f3]
    simp
    exact⟨ptrL 1001 bs,by simp[ptrL,ptrOb],1001,by simp,rfl,rfl⟩
   | false =>
    have f3:doB bs o=(bs.take k++bs.drop (k+1),0):=by rw[f1,f2,hany];rfl
    rw[f3]
    simp[e2]
    have hD:=deleteC (bs.map BS.row) k (k+1) (by omega) (by simp;omega) (by simpa using hl) hall hone
    simp only[List.length_map]at hD
    refine qad [(1000,.whole 1001)] (by kernel_rfl) hD (by simp) (by simp) (by simp[bkOb];exact qac rfl (by simp)) (by simp) (by simp) ?_
    rintro r L' ⟨rfl,rfl⟩
    refine⟨[],⟨by simp,by simp,by simp,by simp,by simp⟩,?_⟩
    simp
    exact⟨ptrL 1001 (bs.take k++bs.drop (k+1)),by simp[ptrL,ptrOb,bkOb];omega,1001,by simp,rfl,rfl⟩
  by_cases g5:o.kind=3
  ·have f1:doB bs o=putB bs k o:=by simp[doB,h1,hk,ht,g5]
   rw[f1]
   simp[g4,g5]
   refine qaj (by kernel_rfl) (isBlockC o.i) (by simp) (by simp) ?_
   by_cases p1:0≤o.i∧o.i≤7
   rotate_left
   ·have p1':(decide (0≤o.i) && decide (o.i≤7))=false:=by simp;omega
    have p2:putB bs k o=(bs,5):=by simp only[putB,ht];rw[if_pos (by omega)]
    rw[p1',p2]
    simp
    exact⟨ptrL 1001 bs,by simp[ptrL,ptrOb],1001,by simp,rfl,rfl⟩
   have p1':(decide (0≤o.i) && decide (o.i≤7))=true:=by simp;omega
   by_cases p3:24<o.text.length
   ·have p3':(24:Int)<o.text.length:=by omega
    have p2:putB bs k o=(bs,5):=by simp only[putB,ht];rw[if_pos (by omega)]
    rw[p1',p2]
    simp[p3']
    exact⟨ptrL 1001 bs,by simp[ptrL,ptrOb],1001,by simp,rfl,rfl⟩
   have p3':¬ (24:Int)<o.text.length:=by omega
   rw[p1']
   by_cases p4:t.kind=1
   ·have p2:putB bs k o=(bs.set k { t with bl:=t.bl.set o.i.toNat o.text },0):=by simp only[putB,ht];rw[if_neg (by omega),if_neg (by omega)]
    rw[p2]
    simp[p3',hkl,hk0,ht,p4,qag _ ht8]
    rw[row_set t o.i.toNat o.text (by omega)]
    refine⟨⟨by omega,by omega⟩,by omega,ptrL 1001 (bs.set k { t with bl:=t.bl.set o.i.toNat o.text }),?_,1001,by simp,rfl,by rw[← p4]⟩
    simp[ptrL,ptrOb,bkOb,List.map_set]
   ·have p2:putB bs k o=(bs,3):=by simp only[putB,ht];rw[if_neg (by omega),if_pos p4]
    rw[p2]
    simp[p3',hkl,hk0,ht,p4,qag _ ht8]
    exact⟨ptrL 1001 bs,by simp[ptrL,ptrOb],1001,by simp,rfl,rfl⟩
  by_cases g6:o.kind=6
  ·have f1:doB bs o=backB bs k o.b:=by simp[doB,h1,hk,ht,g6]
   rw[f1]
   simp[g4,g5,g6]
   refine qcc (by kernel_rfl) (placeC bs o.b hl hB hS) (by simp[bk]) (by simp) (by simp) ?_
   cases q1:atB bs o.b with
   | false =>
    have q2:backB bs k o.b=(bs,1):=by simp[backB,ht,q1]
    rw[q2]
    simp
    exact⟨ptrL 1001 bs,by simp[ptrL,ptrOb],1001,by simp,rfl,rfl⟩
   | true =>
    obtain⟨u,hu,hun⟩:=atB_some q1
    obtain⟨j,hj⟩:∃ j,atP bs o.b=j:=⟨_,rfl⟩
    rw[hj]at hu
    have hjl:=(List.getElem?_eq_some_iff.1 hu).1
    have hj0:bs[j]=u:=(List.getElem?_eq_some_iff.1 hu).2
    have hu8:=hB u (List.mem_of_getElem? hu)
    by_cases q3:t.kind=1
    ·by_cases q4:u.kind=2
     ·by_cases q5:u.frm=o.a
      ·have q2:backB bs k o.b=(bs.set k { t with bl:=u.bl },0):=by simp[backB,ht,q1,hj,hu,q3,q4,q5,htn]
       rw[q2]
       simp[hj,hkl,hk0,ht,hu,hjl,hj0,qag _ ht8,qag _ hu8,q3,q4,q5]
       have f2:List.take 8 (List.map AV.str u.bl)=u.bl.map AV.str:=List.take_of_length_le (by simp[hu8])
       have f3:List.take 3 t.row++(u.bl.map .str++List.drop (3+min 8 u.bl.length) t.row)=BS.row { t with bl:=u.bl }:=by
        rw[show 3+min 8 u.bl.length=11 by omega,row_drop _ ht8,List.append_nil,row_blk t u ht8 hu8]
       rw[f2,f3]
       refine⟨⟨by omega,by simp⟩,ptrL 1001 (bs.set k { t with bl:=u.bl }),?_,1001,by simp,rfl,by rw[← q3]⟩
       simp[ptrL,ptrOb,bkOb,List.map_set]
      ·have q2:backB bs k o.b=(bs,3):=by simp[backB,ht,q1,hj,hu,q5,htn]
       rw[q2]
       simp[hj,hkl,hk0,ht,hu,hjl,hj0,qag _ ht8,qag _ hu8,q3,q4,q5]
       exact⟨ptrL 1001 bs,by simp[ptrL,ptrOb],1001,by simp,rfl,rfl⟩
     ·have q2:backB bs k o.b=(bs,3):=by simp[backB,ht,q1,hj,hu,q4]
      rw[q2]
      simp[hj,hkl,hk0,ht,hu,hjl,hj0,qag _ ht8,qag _ hu8,q3,q4]
      exact⟨ptrL 1001 bs,by simp[ptrL,ptrOb],1001,by simp,rfl,rfl⟩
    ·have q2:backB bs k o.b=(bs,3):=by simp[backB,ht,q1,hj,hu,q3]
     rw[q2]
     simp[hj,hkl,hk0,ht,hu,hjl,hj0,qag _ ht8,qag _ hu8,q3]
     exact⟨ptrL 1001 bs,by simp[ptrL,ptrOb],1001,by simp,rfl,rfl⟩
  by_cases g7:o.kind=5
  ·by_cases g8:t.kind=2
   ·have f1:doB bs o=newB bs ⟨o.b,1,t.name,t.bl⟩:=by simp[doB,h1,hk,ht,g7,g8]
    have hc:=addC bs ⟨o.b,1,t.name,t.bl⟩ hl hB hS ht8 ho.2
    rw[f1]
    generalize newB bs ⟨o.b,1,t.name,t.bl⟩=res at hc
    rw[htn]at hc
    simp[g4,g5,g6,g7,g8,hkl,hk0,ht,qag _ ht8,m8,t8]
    refine qad [(1000,.whole 1000),(1001,.whole 1001)] (by kernel_rfl) hc (by simp[BS.row]) (by simp) (by simp[ptrL,ptrOb,bkOb];exact⟨.inr ⟨_,_,rfl,rfl,by simp⟩,qac rfl (by simp)⟩) (by simp[ptrL]) (by simp) ?_
    rintro r L' ⟨id,hid,rfl,rfl⟩
    simp only[List.mem_cons,List.not_mem_nil,or_false]at hid
    rcases hid with rfl | rfl
    ·refine⟨[],⟨by simp[ptrL],by simp,by simp,by simp[ptrL],by simp⟩,?_⟩
     simp[ptrL,ptrOb]
     exact⟨ptrL 1001 res.1,by simp[ptrL,ptrOb],1001,by simp,rfl,rfl⟩
    ·refine⟨[(901,902)],⟨by simp[ptrL],by simp,by simp,by simp[ptrL],by simp⟩,?_⟩
     simp[ptrL,ptrOb]
     exact⟨ptrL 902 res.1,by simp[ptrL,ptrOb],902,by simp,rfl,rfl⟩
   ·have f1:doB bs o=(bs,3):=by simp[doB,h1,hk,ht,g7,g8]
    rw[f1]
    simp[g4,g5,g6,g7,g8,hkl,hk0,ht,qag _ ht8,m8,t8]
    exact⟨ptrL 1001 bs,by simp[ptrL,ptrOb],1001,by simp,rfl,rfl⟩
  ·have g7':o.kind=4:=by omega
   by_cases g8:t.kind=1
   ·have f1:doB bs o=newB bs ⟨o.b,2,t.name,t.bl⟩:=by simp[doB,h1,hk,ht,g7',g8]
    have hc:=addC bs ⟨o.b,2,t.name,t.bl⟩ hl hB hS ht8 ho.2
    rw[f1]
    generalize newB bs ⟨o.b,2,t.name,t.bl⟩=res at hc
    rw[htn]at hc
    simp[g4,g5,g6,g7,g7',g8,hkl,hk0,ht,qag _ ht8,m8,t8]
    refine qad [(1000,.whole 1000),(1001,.whole 1001)] (by kernel_rfl) hc (by simp[BS.row]) (by simp) (by simp[ptrL,ptrOb,bkOb];exact⟨.inr ⟨_,_,rfl,rfl,by simp⟩,qac rfl (by simp)⟩) (by simp[ptrL]) (by simp) ?_
    rintro r L' ⟨id,hid,rfl,rfl⟩
    simp only[List.mem_cons,List.not_mem_nil,or_false]at hid
    rcases hid with rfl | rfl
    ·refine⟨[],⟨by simp[ptrL],by simp,by simp,by simp[ptrL],by simp⟩,?_⟩
     simp[ptrL,ptrOb]
     exact⟨ptrL 1001 res.1,by simp[ptrL,ptrOb],1001,by simp,rfl,rfl⟩
    ·refine⟨[(901,902)],⟨by simp[ptrL],by simp,by simp,by simp[ptrL],by simp⟩,?_⟩
     simp[ptrL,ptrOb]
     exact⟨ptrL 902 res.1,by simp[ptrL,ptrOb],902,by simp,rfl,rfl⟩
   ·have f1:doB bs o=(bs,3):=by simp[doB,h1,hk,ht,g7',g8]
    rw[f1]
    simp[g4,g5,g6,g7,g7',g8,hkl,hk0,ht,qag _ ht8,m8,t8]
    exact⟨ptrL 1001 bs,by simp[ptrL,ptrOb],1001,by simp,rfl,rfl⟩
end Go.Av.F
end
section
namespace Go.Av.F
open Go Go.Av
open Go.Proofs Go.Proofs.Tryd
attribute [-simp] getU hdS canon qae i64w
attribute [local simp] tt3 tt4 tt9 tt5 tt94 tt33 tt31 tt64 tt62 tt53 tt71
theorem newB_mem {bs:List BS} {s b:BS} (h:b∈(newB bs s).1):b∈bs∨b=s:=by
 unfold newB at h
 split at h
 ·exact .inl h
 ·split at h
  ·exact .inl h
  ·split at h
   ·exact .inl h
   ·simp only[List.mem_append,List.mem_cons]at h
    rcases h with h | h | h
    ·exact .inl (List.mem_of_mem_take h)
    ·exact .inr h
    ·exact .inl (List.mem_of_mem_drop h)
theorem newB_len (bs:List BS) (s:BS):(newB bs s).1.length≤bs.length+1:=by
 unfold newB
 split
 ·simp
 ·split
  ·simp
  ·split
   ·simp
   ·simp;omega
theorem mem_set {bs:List BS} {k:Nat} {t b:BS} (h:b∈bs.set k t):b∈bs∨b=t:=by
 rcases List.mem_or_eq_of_mem_set h with h | h
 ·exact .inl h
 ·exact .inr h
theorem doB_len (bs:List BS) (o:BO):(doB bs o).1.length≤bs.length+1:=by
 unfold doB
 split
 ·exact newB_len _ _
 ·split
  ·simp
  ·split
   ·simp
   ·split
    ·split
     ·unfold killB
      split
      ·split
       ·simp
       ·simp;omega
      ·simp
     ·split
      ·unfold putB
       split
       ·split
        ·simp
        ·split <;> simp
       ·simp
      ·split
       ·unfold backB
        split
        ·split
         ·simp
         ·split
          ·split <;> simp
          ·simp
        ·simp
       ·split
        ·split
         ·simp
         ·exact newB_len _ _
        ·split
         ·simp
         ·exact newB_len _ _
    ·simp
theorem okAll_at {bs:List BS} (h:okAll bs=true) {i:Nat} {s:BS} (hs:bs[i]?=some s):okAt bs i s=true:=by
 unfold okAll at h
 rw[List.all_eq_true]at h
 have:=h i (by have:=(List.getElem?_eq_some_iff.1 hs).1;simpa using this)
 rw[hs]at this;exact this
theorem okAll_srt {bs:List BS} (h:okAll bs=true):Srt bs:=by
 have step:∀ i a b,bs[i]?=some a→bs[i+1]?=some b→Op.bytesLess a.name b.name=true:=fun i a b ha hb=>by
  have:=okAll_at h hb
  simp only[okAt,Bool.and_eq_true,okPrev]at this
  have h2:=this.1.1.1.2
  simp only[Nat.add_sub_cancel,ha]at h2
  simpa using h2
 intro i j a b hij ha hb
 obtain⟨d,rfl⟩:∃ d,j=i+1+d:=⟨j-i-1,by omega⟩
 clear hij
 induction d generalizing b with
 | zero=>exact step i a b ha hb
 | succ d ih =>
  have hlt:=(List.getElem?_eq_some_iff.1 hb).1
  have hc:bs[i+1+d]?=some (bs[i+1+d]'(by omega)):=List.getElem?_eq_getElem _
  exact bl_trans (ih _ hc) (step _ _ _ hc (by rw[← hb];rfl))
theorem ibookOkB_srt {bs:List BS} (h:qbv bs=true):Srt bs:=by
 simp only[qbv,Bool.and_eq_true]at h;exact okAll_srt h.1.2
theorem noL_strs:∀ l:List (List UInt8),noL (l.map AV.str)=true
 | []=>rfl
 | a::r=>by simp[noL_strs r]
theorem noL_row (b:BS):noL (BS.row b)=true:=by simp[BS.row,noL_strs]
theorem ibookDoC (bs:List BS) (o:BO) (hl:bs.length<1500000) (hB:∀ b∈bs,b.bl.length=8) (hn:∀ b∈bs,b.name.length<2000000) (ho:o.a.length<2000000∧o.b.length<2000000) :
  ACall Go.Proofs.Tryd.prog 22 [bk bs,.agg (BO.row o)] [] (bkN [903] (qbv bs) (doB bs o)):=by
 refine acx func22 [] ntmps22 rfl rfl rfl ?_
 simp[bk,BO.row]
 refine qaj (by kernel_rfl) (ibookOkC bs (by omega) hB hn) (by simp[bk]) (by simp) ?_
 cases h1:qbv bs with
 | false=>simp[bkN]
 | true =>
  have hS:=ibookOkB_srt h1
  have hd:=idoC bs o (by omega) hB hS ho
  have hdl:=doB_len bs o
  generalize doB bs o=res at hd hdl
  simp
  refine qad [] (by kernel_rfl) (ownC2 bs (by omega)) (by simp[bk]) (by simp) (by simp) (by simp) (by simp) ?_
  rintro r L' ⟨rfl,rfl⟩
  refine⟨[(900,901)],⟨by simp,by simp,by simp,by simp,by simp⟩,?_⟩
  simp
  refine qad [(1000,.whole 6),(1001,.whole 901)] (by kernel_rfl) hd (by simp[BO.row]) (by simp) (by simp[ptrL,ptrOb,bkOb];exact⟨.inr ⟨_,_,rfl,rfl,by simp⟩,qac rfl (by simp)⟩) (by simp[ptrL]) (by simp) ?_
  rintro r L' ⟨id,hid,rfl,rfl⟩
  simp only[List.mem_cons,List.not_mem_nil,or_false]at hid
  rcases hid with rfl | rfl
  ·refine⟨[],⟨by simp[ptrL],by simp,by simp,by simp[ptrL],by simp⟩,?_⟩
   simp[ptrL,ptrOb]
   refine callA_vw [] (by kernel_rfl) (ownC2 res.1 (by omega)) (by simp[bk,bkOb]) (by simp) (by simp) (by simp) (by simp) ?_
   rintro r L' ⟨rfl,rfl⟩
   refine⟨by simp,by simp[bkOb,noL_row],[(900,903)],⟨by simp,by simp,by simp,by simp,by simp⟩,?_⟩
   simp
   exact⟨[(903,bkOb res.1)],by simp[bkOb],by simp[bkN];exact⟨903,by simp,rfl,rfl⟩⟩
  ·refine⟨[(902,902)],⟨by simp[ptrL],by simp,by simp,by simp[ptrL],by simp⟩,?_⟩
   simp[ptrL,ptrOb]
   refine callA_vw [] (by kernel_rfl) (ownC2 res.1 (by omega)) (by simp[bk,bkOb]) (by simp) (by simp) (by simp) (by simp) ?_
   rintro r L' ⟨rfl,rfl⟩
   refine⟨by simp,by simp[bkOb,noL_row],[(900,903)],⟨by simp,by simp,by simp,by simp,by simp⟩,?_⟩
   simp
   exact⟨[(903,bkOb res.1)],by simp[bkOb],by simp[bkN];exact⟨903,by simp,rfl,rfl⟩⟩
end Go.Av.F
end
section
namespace Go.Av.F
open Go Go.Av
open Go.Proofs Go.Proofs.Tryd
attribute [-simp] getU hdS canon qae i64w
attribute [local simp] tt3 tt4 tt9 tt5 tt94 tt33 tt31 tt64 tt62 tt53 tt71
end Go.Av.F
end
section
namespace Go.Av.F
open Go Go.Av
theorem bl_irrefl (a:List UInt8):Op.bytesLess a a=false:=by
 rw[Go.Proofs.bytesLess_eq];simp[Std.lt_irrefl]
theorem srt_inj {bs:List BS} (hS:Srt bs) {i j:Nat} {a b:BS} (ha:bs[i]?=some a) (hb:bs[j]?=some b) (h:a.name=b.name):i=j:=by
 rcases Nat.lt_trichotomy i j with hij | hij | hij
 ·have:=hS i j a b hij ha hb;rw[h,bl_irrefl]at this;cases this
 ·exact hij
 ·have:=hS j i b a hij hb ha;rw[h,bl_irrefl]at this;cases this
theorem atP_of {bs:List BS} (hS:Srt bs) {j:Nat} {t:BS} (ht:bs[j]?=some t):atP bs t.name=j∧atB bs t.name=true:=by
 have h:=(qbz (fun b:BS=>Op.bytesLess b.name t.name) bs j t (fun x hx y hy=>hS x j y t hx hy ht) ht).2 (bl_irrefl _)
 have h':atP bs t.name=j:=h
 exact⟨h',by unfold atB;rw[h',ht];simp⟩
theorem find_at {bs:List BS} (hS:Srt bs) (x:List UInt8):bs.findIdx? (fun b=>b.name == x)=if atB bs x=true then some (atP bs x) else none:=by
 split
 ·rename_i h
  obtain⟨u,hu,hun⟩:=atB_some h
  refine idx_step (fun b=>b.name == x) bs (atP bs x) u (fun j hj y hy=>?_) hu (by simp[hun])
  rw[beq_eq_false_iff_ne]
  intro e
  have:=srt_inj hS hy hu (e.trans hun.symm)
  omega
 ·rename_i h
  rw[List.findIdx?_eq_none_iff]
  intro b hb
  obtain⟨j,hj,e⟩:=List.mem_iff_getElem.1 hb
  rw[beq_eq_false_iff_ne]
  intro e2
  have hb2:bs[j]?=some b:=by rw[← e];exact List.getElem?_eq_getElem hj
  have:=(atP_of hS hb2).2
  rw[e2]at this;exact h this
theorem leads_roots {bs:List BS} (hS:Srt bs):∀ (m:Nat) (s:BS),leadsB bs m s=roots bs m s
 | 0,s=>rfl
 | m+1,s=>by
  simp only[leadsB,roots,find_at hS]
  split
  ·rfl
  ·cases h:atB bs s.frm with
   | false =>
    simp
    split <;> rfl
   | true =>
    simp only[if_true]
    cases hu:bs[atP bs s.frm]? with
    | none=>rfl
    | some t =>
     simp only
     by_cases hk:t.kind=s.kind
     ·simp[hk]
     ·simp[hk,leads_roots hS m t]
theorem roots_mono {bs:List BS}:∀ (m:Nat) (s:BS),roots bs m s=true→roots bs (m+1) s=true
 | 0,s,h=>by simp[roots]at h
 | m+1,s,h=>by
  simp only[roots]at h
  rw[roots]
  split at h
  ·rename_i h1;rw[if_pos h1];exact h
  ·rename_i h1
   rw[if_neg h1]
   split at h
   ·rename_i t ht
    split at h
    ·rename_i h2;rw[if_pos h2];exact roots_mono m t h
    ·cases h
   ·cases h
theorem roots_step {bs:List BS} {m:Nat} (h:∀ s∈bs,roots bs m s=roots bs (m+1) s):∀ s,roots bs (m+1) s=roots bs (m+2) s:=fun s=>by
 rw[roots,roots]
 split
 ·rfl
 ·split
  ·rename_i t ht
   split
   ·exact h t (List.mem_of_getElem? ht)
   ·rfl
  ·rfl
theorem countP_strict {α:Type} {p q:α→Bool}:∀ {l:List α},(∀ x∈l,p x=true→q x=true)→(∃ x∈l,q x=true∧p x=false)→l.countP p<l.countP q
 | [],_,h=>by obtain⟨x,hx,_⟩:=h;simp at hx
 | a::r,h,hex=>by
  have hle:r.countP p≤r.countP q:=List.countP_mono_left fun x hx=>h x (List.mem_cons_of_mem _ hx)
  obtain⟨x,hx,h1,h2⟩:=hex
  simp only[List.mem_cons]at hx
  rcases hx with rfl | hx
  ·rw[List.countP_cons,List.countP_cons,if_pos h1,if_neg (by simp[h2])];omega
  ·have:=countP_strict (l:=r) (fun x hx=>h x (List.mem_cons_of_mem _ hx)) ⟨x,hx,h1,h2⟩
   rw[List.countP_cons,List.countP_cons]
   cases ha:p a with
   | true=>rw[if_pos rfl,if_pos (h a (by simp) ha)];omega
   | false =>
    simp only[Bool.false_eq_true,if_false]
    split <;> omega
theorem roots_grow (bs:List BS):∀ m:Nat,(∀ s∈bs,roots bs m s=roots bs (m+1) s)∨m+1≤bs.countP (roots bs (m+1))
 | 0=>by
  rcases Nat.eq_zero_or_pos (bs.countP (roots bs 1))with h | h
  ·left
   intro s hs
   rw[List.countP_eq_zero]at h
   have:=h s hs
   simp only[roots,Bool.not_eq_true]at this ⊢
   exact this.symm
  ·right;exact h
 | m+1=>by
  rcases roots_grow bs m with h | h
  ·exact .inl fun s _=>roots_step h s
  ·by_cases hs:∀ s∈bs,roots bs (m+1) s=roots bs (m+2) s
   ·exact .inl hs
   ·right
    have:∃ s∈bs,roots bs (m+2) s=true∧roots bs (m+1) s=false:=by
     simp only[Classical.not_forall]at hs
     obtain⟨s,hm,hne⟩:=hs
     refine⟨s,hm,?_⟩
     cases h1:roots bs (m+1) s with
     | true=>exact absurd ((h1.trans (roots_mono _ _ h1).symm)) hne
     | false =>
      cases h2:roots bs (m+2) s with
      | true=>exact⟨rfl,rfl⟩
      | false=>exact absurd (h1.trans h2.symm) hne
    have:bs.countP (roots bs (m+1))<bs.countP (roots bs (m+1+1)):=countP_strict (fun x _ hx=>roots_mono (m+1) x hx) this
    omega
theorem roots_len (bs:List BS):∀ s∈bs,roots bs bs.length s=roots bs (bs.length+1) s:=by
 rcases roots_grow bs bs.length with h | h
 ·exact h
 ·have:=List.countP_le_length (p:=roots bs (bs.length+1)) (l:=bs);omega
theorem ok_eq (bs:List BS):qbv bs=qat bs:=by
 unfold qbv qat
 cases h:okAll bs with
 | false=>simp
 | true =>
  have hS:=okAll_srt h
  congr 1
  rw[← List.not_all_eq_any_not,Bool.not_not]
  rw[Bool.eq_iff_iff,List.all_eq_true,List.all_eq_true]
  constructor
  ·intro h s hs;rw[← roots_len bs s hs,← leads_roots hS];exact h s hs
  ·intro h s hs;rw[leads_roots hS,roots_len bs s hs];exact h s hs
inductive Rt (bs:List BS):BS→Prop
 | root (s:BS):s.frm=[]→s.kind=1→Rt bs s
 | step (s t:BS):s.frm≠[]→t∈bs→t.name=s.frm→t.kind≠s.kind→Rt bs t→Rt bs s
def Pw (bs:List BS):Prop:=bs.Pairwise fun a b=>Op.bytesLess a.name b.name=true
def Fine (s:BS):Prop:=nameB s.name=true∧1≤s.kind∧s.kind≤2∧∀ t∈s.bl,t.length≤24
def Ok (bs:List BS):Prop:=bs.length≤6∧Pw bs∧∀ s∈bs,Fine s∧Rt bs s
theorem pw_srt {bs:List BS} (h:Pw bs):Srt bs:=fun i j a b hij ha hb=>by
 obtain⟨h1,rfl⟩:=List.getElem?_eq_some_iff.1 ha
 obtain⟨h2,rfl⟩:=List.getElem?_eq_some_iff.1 hb
 exact(List.pairwise_iff_getElem.1 h) i j h1 h2 hij
theorem srt_pw {bs:List BS} (h:Srt bs):Pw bs:=List.pairwise_iff_getElem.2 fun i j h1 h2 hij=>h i j _ _ hij (List.getElem?_eq_getElem h1) (List.getElem?_eq_getElem h2)
theorem at_mem {bs:List BS} (hS:Srt bs) {t:BS} (h:t∈bs):bs[atP bs t.name]?=some t∧atB bs t.name=true:=by
 obtain⟨i,hi,rfl⟩:=List.mem_iff_getElem.1 h
 have:=atP_of hS (List.getElem?_eq_getElem hi)
 exact⟨by rw[this.1];exact List.getElem?_eq_getElem hi,this.2⟩
theorem rt_roots {bs:List BS} (hS:Srt bs) {s:BS} (h:Rt bs s):∃ n,roots bs n s=true:=by
 induction h with
 | root s h1 h2=>exact⟨1,by simp[roots,h1,h2]⟩
 | step s t h1 h2 h3 h4 _ ih =>
  obtain⟨n,hn⟩:=ih
  obtain⟨e1,e2⟩:=at_mem hS h2
  rw[h3]at e1 e2
  exact⟨n+1,by simp[roots,h1,e1,e2,h4,hn]⟩
theorem roots_rt {bs:List BS}:∀ (n:Nat) (s:BS),roots bs n s=true→Rt bs s
 | 0,s,h=>by simp[roots]at h
 | n+1,s,h=>by
  simp only[roots]at h
  split at h
  ·rename_i h1;exact .root s h1 (by simpa using h)
  ·rename_i h1
   split at h
   ·rename_i t ht
    split at h
    ·rename_i h2
     obtain⟨u,hu,hun⟩:=atB_some h2.1
     rw[ht]at hu;injection hu with hu;subst hu
     exact .step s t h1 (List.mem_of_getElem? ht) hun h2.2 (roots_rt n t h)
    ·cases h
   ·cases h
theorem roots_add (bs:List BS):∀ (k:Nat) (s:BS),s∈bs→roots bs (bs.length+k) s=roots bs bs.length s
 | 0,s,hs=>rfl
 | k+1,s,hs=>by
  have h:∀ (k:Nat),∀ s∈bs,roots bs (bs.length+k) s=roots bs (bs.length+k+1) s:=fun k=>by
   induction k with
   | zero=>exact roots_len bs
   | succ k ih=>exact fun s _=>roots_step ih s
  have:=h k s hs
  rw[show bs.length+(k+1)=bs.length+k+1 by omega,← this]
  exact roots_add bs k s hs
theorem roots_any {bs:List BS} {s:BS} (hs:s∈bs) {n:Nat} (h:roots bs n s=true):roots bs (bs.length+1) s=true:=by
 have:∀ k,roots bs (n+k) s=true:=fun k=>by
  induction k with
  | zero=>exact h
  | succ k ih=>exact roots_mono _ _ ih
 have h1:=this bs.length
 rw[Nat.add_comm,roots_add bs n s hs]at h1
 exact roots_mono _ _ h1
theorem okB_iff {bs:List BS}:qat bs=true↔Ok bs:=by
 constructor
 ·intro h
  simp only[qat,Bool.and_eq_true,decide_eq_true_eq,List.all_eq_true]at h
  refine⟨h.1.1,srt_pw (okAll_srt h.1.2),fun s hs=>⟨?_,roots_rt _ _ (h.2 s hs)⟩⟩
  obtain⟨i,hi,e⟩:=List.mem_iff_getElem.1 hs
  have:=okAll_at h.1.2 (i:=i) (s:=s) (by rw[← e];exact List.getElem?_eq_getElem hi)
  simp only[okAt,Bool.and_eq_true,decide_eq_true_eq,List.all_eq_true]at this
  exact⟨this.1.1.1.1,this.1.1.2,this.1.2,this.2⟩
 ·rintro⟨h1,h2,h3⟩
  have hS:=pw_srt h2
  simp only[qat,Bool.and_eq_true,decide_eq_true_eq,List.all_eq_true]
  refine⟨⟨h1,?_⟩,fun s hs=>?_⟩
  ·unfold okAll
   rw[List.all_eq_true]
   intro i hi
   have hil:i<bs.length:=by simpa using hi
   rw[List.getElem?_eq_getElem hil]
   obtain⟨g1,g2,g3,g4⟩:=(h3 _ (List.getElem_mem hil)).1
   simp only[okAt,Bool.and_eq_true,decide_eq_true_eq,List.all_eq_true]
   refine⟨⟨⟨⟨g1,?_⟩,g2⟩,g3⟩,g4⟩
   unfold okPrev
   cases i with
   | zero=>simp
   | succ i =>
    have:i<bs.length:=by omega
    simp only[Nat.add_sub_cancel,List.getElem?_eq_getElem this]
    simp[hS i (i+1) _ _ (by omega) (List.getElem?_eq_getElem this) (List.getElem?_eq_getElem hil)]
  ·obtain⟨n,hn⟩:=rt_roots hS (h3 s hs).2
   exact roots_any hs hn
theorem Rt.map {bs bs':List BS} (hb:∀ u∈bs,∃ u'∈bs',u'.name=u.name∧u'.kind=u.kind∧u'.frm=u.frm) {s:BS} (h:Rt bs s):∀ s':BS,s'.frm=s.frm→s'.kind=s.kind→Rt bs' s':=by
 induction h with
 | root s h1 h2=>exact fun s' e1 e2=>.root s' (e1.trans h1) (e2.trans h2)
 | step s t h1 h2 h3 h4 _ ih =>
  intro s' e1 e2
  obtain⟨u,hu,g1,g2,g3⟩:=hb t h2
  exact .step s' u (by rw[e1];exact h1) hu (by rw[e1,g1];exact h3) (by rw[e2,g2];exact h4) (ih u g3 g2)
end Go.Av.F
end
section
namespace Go.Av.F
open Go Go.Av
open Go.Proofs Go.Proofs.Tryd
attribute [-simp] getU hdS canon qae i64w
structure PT where
 pa:Int
 ps:Int
 pb:Int
deriving DecidableEq,Inhabited
def PT.row (p:PT):List AV:=[.int .i64 p.pa,.int .i64 p.ps,.int .i64 p.pb]
structure CS where
 name:List UInt8
 kind:Int
 frm:List UInt8
 map:List PT
 home:PT
 dirty:Bool
deriving DecidableEq,Inhabited
def CS.row (s:CS):List AV:=.str s.name::.int .i64 s.kind::.str s.frm::(s.map.flatMap PT.row++(s.home.row++[.bool s.dirty]))
structure DE where
 es:Int
 ea:Int
 ec:Int
deriving DecidableEq,Inhabited
def DE.row (e:DE):List AV:=[.int .i64 e.es,.int .i64 e.ea,.int .i64 e.ec]
def intRow (n:Int):List AV:=[.int .i64 n]
structure CO where
 txg:Int
 sets:List CS
 ddt:List DE
 parts:List PT
 dirty:Bool
 safe:List Int
 logn:Int
deriving DecidableEq,Inhabited
def CO.row (c:CO):List AV:=[.int .i64 c.txg,.lst 31 (c.sets.map CS.row),.lst 3 (c.ddt.map DE.row),.lst 3 (c.parts.map PT.row),.bool c.dirty,.lst 1 (c.safe.map intRow),.int .i64 c.logn]
def i64G (z:Int):Prop:=-9223372036854775808≤z∧z≤9223372036854775807
theorem wf_i64 {z:Int} (h:(Lit.int .i64 z).wf=true):i64G z:=by
 simpa [Lit.wf,IntKind.min,IntKind.max,IntKind.signed,IntKind.bits,i64G]using h
theorem rows_ex {α:Type} (f:α→List AV) (G:α→Prop):∀ els:List (List AV),(∀ r∈els,∃ a,G a∧r=f a)→∃ l:List α,els=l.map f∧∀ a∈l,G a
 | [],_=>⟨[],rfl,by simp⟩
 | r::els,h=>by
  obtain⟨a,ha,rfl⟩:=h r (by simp)
  obtain⟨l,rfl,hl⟩:=rows_ex f G els fun x hx=>h x (List.mem_cons_of_mem _ hx)
  refine⟨a::l,rfl,fun x hx=>?_⟩
  rcases List.mem_cons.1 hx with rfl | hx
  ·exact ha
  ·exact hl x hx
theorem arr_ex {α:Type} (f:α→List AV) (G:α→Prop) (S:List AV→Prop) (h:∀ r,S r→∃ a,G a∧r=f a):∀ (k:Nat) (avs:List AV),ShpAs S k avs→∃ l:List α,l.length=k∧avs=l.flatMap f∧∀ a∈l,G a
 | 0,avs,hs=>⟨[],rfl,hs,by simp⟩
 | k+1,avs,hs=>by
  obtain⟨a,b,rfl,ha,hb⟩:=hs
  obtain⟨x,hx,rfl⟩:=h a ha
  obtain⟨l,hl,rfl,hg⟩:=arr_ex f G S h k b hb
  refine⟨x::l,by simp[hl],by simp,fun y hy=>?_⟩
  rcases List.mem_cons.1 hy with rfl | hy
  ·exact hx
  ·exact hg y hy
open Go.Proofs
theorem shp_i64 {n:Nat} {avs:List AV} (h:Shp Tryd.prog (n+1) 3 avs):∃ z,i64G z∧avs=[.int .i64 z]:=by
 obtain⟨z,h1,h2⟩:=shp_int Tryd.underlying3 h
 exact⟨z,wf_i64 h1,h2⟩
end Go.Av.F
end
section
namespace Go.Av.F
open Go Go.Av
open Go.Proofs Go.Proofs.Tryd
attribute [-simp] getU hdS canon qae i64w
attribute [local simp] tt3 tt4 tt9
end Go.Av.F
end
section
namespace Go.Av.F
open Go Go.Av
open Go.Proofs Go.Proofs.Tryd
attribute [-simp] getU hdS canon qae i64w
attribute [local simp] tt3 tt4 tt9
def fillB (l:List (List AV)) (z:List AV) (i:Nat):List (List AV):=l.take i++List.replicate (l.length-i) z
end Go.Av.F
end
section
namespace Go.Av.F
open Go Go.Av
open Go.Proofs Go.Proofs.Tryd
attribute [-simp] getU hdS canon qae i64w
attribute [local simp] tt3 tt4 tt9
end Go.Av.F
end
section
namespace Go.Av.F
open Go Go.Av
open Go.Proofs Go.Proofs.Tryd
attribute [-simp] getU hdS canon qae i64w
attribute [local simp] tt3 tt4 tt9
end Go.Av.F
end
