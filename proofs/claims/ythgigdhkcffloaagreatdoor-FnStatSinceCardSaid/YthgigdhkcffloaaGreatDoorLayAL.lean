/- Lemmas for the proof, no statement of the seat; no conditions. -/
import Derived.Test.YthgigdhkcffloaaGreatDoorLayAK
import Derived.Sort.Walk0
import Derived.Test.YthgigdhkcffloaaGreatDoorProg
import Derived.Shelf.Small.Strs
set_option linter.unusedSimpArgs false
set_option linter.unusedVariables false
set_option linter.unnecessarySimpa false
set_option maxRecDepth 100000
section
namespace Go.Av.F
open Go Go.Av
open Go.Proofs Go.Proofs.Tryz
attribute [-simp] getU hdS canon qab i64w
attribute [local simp] tt3 tt4 tt9 tt5 tt22 tt67 tt65 tt90 tt88
def okPrev (bs:List BS) (i:Nat) (s:BS):Bool:=i == 0 || (match bs[i-1]? with
 | some q=>Op.bytesLess q.name s.name
 | none=>true)
def okAt (bs:List BS) (i:Nat) (s:BS):Bool:=nameB s.name && okPrev bs i s && decide (1≤s.kind) && decide (s.kind≤2) && s.bl.all (fun t=>decide (t.length≤24))
def okAll (bs:List BS):Bool:=(List.range bs.length).all fun i=>match bs[i]? with
 | some s=>okAt bs i s
 | none=>true
def qbe (bs:List BS):Bool:=decide (bs.length≤6) && okAll bs && bs.all (roots bs (bs.length+1))
theorem okAll_bad (bs:List BS) (i:Nat) (s:BS) (h:bs[i]?=some s) (hb:okAt bs i s=false):okAll bs=false:=by
 unfold okAll
 rw[List.all_eq_false]
 have:=(List.getElem?_eq_some_iff.1 h).1
 exact⟨i,by simpa using this,by simp[h,hb]⟩
theorem row3j (b:BS) (j:Nat):(BS.row b)[3+j]?=b.bl[j]?.map .str:=by
 rw[show 3+j=j+1+1+1 by omega];simp[BS.row]
attribute [simp] row3j
theorem bytesLess_leq (a b:List UInt8):(Op.bytesLess a b || a == b)=!Op.bytesLess b a:=by
 simp only[Go.Proofs.bytesLess_eq]
 rcases Std.lt_trichotomy a b with h | h | h
 ·have:¬ b<a:=fun h'=>Std.lt_irrefl (Std.lt_trans h h')
  simp[h,this]
 ·subst h;simp[Std.lt_irrefl]
 ·have:¬ a<b:=fun h'=>Std.lt_irrefl (Std.lt_trans h h')
  have h2:a≠b:=by rintro rfl;exact Std.lt_irrefl h
  simp[h,this,h2]
def short (t:List UInt8):Bool:=decide (t.length≤24)
theorem inner18 {Q:Exit→S→Prop} (bs:List BS) (s:BS) (i:Nat) (h8:s.bl.length=8) {st:S} {ob1:Ob}
  (h0:∃ φ,qab ⟨78,[]⟩ φ st∧canon [] [1,3,4,5] φ st=⟨mkT [(1,.ptr 1 0 0),(3,.int .i64 i),(4,.ptr 4 0 0),(5,.int .i64 0)],hpOf [(1,ob1),(4,⟨11,[BS.row s]⟩)],Us.of [1,4]⟩)
  (hr1:∀ ρ,renOb ρ ob1=ob1)
  (hret:∀ st:S,s.bl.all short=false→st.t 2=.bool false→Q .ret st)
  (hex:∀ st:S,s.bl.all short=true→st.t 1=.ptr 1 0 0→st.t 3=.int .i64 i→st.h=hpOf [(1,ob1),(4,⟨11,[BS.row s]⟩)]→st.u=Us.of [1,4]→Q (.exit 2) st) :
  ev Go.Proofs.Tryz.prog ⟨78,[]⟩ (.loop ac43_l1) Q st:=by
 refine qbu (X:=Nat) [1,3,4,5] (fun j=>⟨mkT [(1,.ptr 1 0 0),(3,.int .i64 i),(4,.ptr 4 0 0),(5,.int .i64 j)],hpOf [(1,ob1),(4,⟨11,[BS.row s]⟩)],Us.of [1,4]⟩) (fun j=>8-j)
  (fun j=>j≤8∧(s.bl.take j).all short=true) 0 ⟨by simp,h0⟩ ?_
 rintro j ⟨hj,ha⟩
 by_cases h1:j<8
 ·obtain⟨x,e0⟩:∃ x,s.bl[j]'(by omega)=x:=⟨_,rfl⟩
  have e1:s.bl[j]?=some x:=by rw[← e0];exact List.getElem?_eq_getElem (by omega)
  have e2:IntKind.i64.wrap ((j:Int)+1)=((j+1:Nat):Int):=by rw[qao _ (by omega)];omega
  have h1':j<s.bl.length:=by omega
  have h1'':(j:Int)<8:=by omega
  simp[ac43_l1,h1,h1',h1'',e0,e1,e2,h8]
  refine⟨by omega,fun h=>hret _ ?_ rfl,fun h=>?_⟩
  ·rw[List.all_eq_false];exact⟨x,List.mem_of_getElem? e1,by simp[short];omega⟩
  ·refine qbs (j+1) (by omega) ⟨by omega,?_⟩ [(1,1),(4,4)] (by simp[qab]) (by simp[canon,obOf,hr1])
   have h2:=all_take_succ short s.bl j x e1
   rw[ha,show short x=true by simp[short];omega]at h2
   simpa using h2
 ·have:j=8:=by omega
  subst this
  rw[List.take_of_length_le (by omega)]at ha
  simp[ac43_l1]
  exact hex _ ha rfl rfl rfl rfl
theorem loop18b {Q:Exit→S→Prop} (bs:List BS) (hl:bs.length<2000000) (hB:∀ b∈bs,b.bl.length=8) {st:S}
  (h0:∃ φ,qab ⟨78,[]⟩ φ st∧canon [] [1,6] φ st=⟨mkT [(1,.ptr 1 0 0),(6,.int .i64 0)],hpOf [(1,⟨1,[[.lst 11 (bs.map BS.row)]]⟩)],Us.of [1]⟩)
  (hret:∀ st:S,bs.all (roots bs (bs.length+1))=false→st.t 2=.bool false→Q .ret st)
  (hex:∀ st:S,bs.all (roots bs (bs.length+1))=true→Q (.exit 4) st):ev Go.Proofs.Tryz.prog ⟨78,[]⟩ (.loop ac43_l2) Q st:=by
 refine qbu (X:=Nat) [1,6] (fun j=>⟨mkT [(1,.ptr 1 0 0),(6,.int .i64 j)],hpOf [(1,⟨1,[[.lst 11 (bs.map BS.row)]]⟩)],Us.of [1]⟩) (fun j=>bs.length-j)
  (fun j=>j≤bs.length∧(bs.take j).all (roots bs (bs.length+1))=true) 0 ⟨by simp,h0⟩ ?_
 rintro j ⟨hj,ha⟩
 by_cases h1:j<bs.length
 ·obtain⟨x,e0⟩:∃ x,bs[j]=x:=⟨_,rfl⟩
  have e1:bs[j]?=some x:=by rw[← e0];exact List.getElem?_eq_getElem (by omega)
  have e2:IntKind.i64.wrap ((j:Int)+1)=((j+1:Nat):Int):=by rw[qao _ (by omega)];omega
  have hx:=hB x (List.mem_of_getElem? e1)
  simp[ac43_l2,h1,e0,e1,qaq _ hx,row_take _ hx]
  refine qcb (by kernel_rfl) (rootsC bs x hl hB hx) (by simp[bk]) (by simp) ?_
  cases hr:roots bs (bs.length+1) x with
  | false =>
   simp
   exact hret _ (by rw[List.all_eq_false];exact⟨x,List.mem_of_getElem? e1,by simp[hr]⟩) rfl
  | true =>
   simp[e2]
   refine qbs (j+1) (by omega) ⟨by omega,?_⟩ [(1,1)] (by simp[qab]) (by simp[canon,obOf])
   have h2:=all_take_succ (roots bs (bs.length+1)) bs j x e1
   rw[ha,hr]at h2
   simpa using h2
 ·have:j=bs.length:=by omega
  subst this
  rw[List.take_length]at ha
  simp[ac43_l2]
  exact hex _ ha
theorem bookOkC (bs:List BS) (hl:bs.length<2000000) (hB:∀ b∈bs,b.bl.length=8) (hs:∀ b∈bs,b.name.length<1000000000):ACall Go.Proofs.Tryz.prog 43 [bk bs] [] (fun r L'=>r=.bool (qbe bs)∧L'=[]):=by
 obtain⟨res,hres⟩:∃ res,qbe bs=res:=⟨_,rfl⟩
 rw[hres]
 by_cases h0:bs.length≤6
 ·have h0':¬ (6:Int)<bs.length:=by omega
  have h0'':(bs.length:Int)≤6:=by omega
  apply vc43 (by simp) (by simp)
  simp[ac43,bk,h0',h0'']
  refine qbu (X:=Nat) [1,3] (fun i=>⟨mkT [(1,.ptr 1 0 0),(3,.int .i64 i)],hpOf [(1,⟨1,[[.lst 11 (bs.map BS.row)]]⟩)],Us.of [1]⟩) (fun i=>bs.length-i)
   (fun i=>i≤bs.length∧∀ j,j<i→∀ s,bs[j]?=some s→okAt bs j s=true) 0 ⟨by simp,[(1,1)],by simp[qab],by simp[canon,obOf]⟩ ?_
  rintro i ⟨hi,ha⟩
  by_cases h1:i<bs.length
  ·obtain⟨s,e0⟩:∃ s,bs[i]=s:=⟨_,rfl⟩
   have e1:bs[i]?=some s:=by rw[← e0];exact List.getElem?_eq_getElem h1
   have hsm:s∈bs:=List.mem_of_getElem? e1
   have e2:IntKind.i64.wrap ((i:Int)+1)=((i+1:Nat):Int):=by rw[qao _ (by omega)];omega
   have hbad:okAt bs i s=false→res=false:=fun h=>by rw[← hres,qbe,okAll_bad bs i s e1 h];simp
   simp[ac43_l0,h1,e0,e1,qaq _ (hB s hsm),row_take _ (hB s hsm)]
   refine⟨row_all s,qcb (by kernel_rfl) (bookName s.name (by have:=hs s hsm;omega)) (by simp) (by simp) ?_⟩
   cases hn:nameB s.name with
   | false=>simp[hbad (by simp[okAt,hn])]
   | true =>
    have hpv:okPrev bs i s=false→res=false:=fun h=>hbad (by simp[okAt,h])
    have next:okAt bs i s=true→∀ j,j<i+1→∀ s,bs[j]?=some s→okAt bs j s=true:=fun hok j hj y hy=>by
     by_cases hji:j=i
     ·subst hji;rw[e1]at hy;injection hy with hy;subst hy;exact hok
     ·exact ha j (by omega) y hy
    have fin:∀ (h:okPrev bs i s=true) (h1:1≤s.kind) (h2:s.kind≤2),s.bl.all short=true→okAt bs i s=true:=fun h h1 h2 h3=>by
     have h4:(s.bl.all fun t=>decide (t.length≤24))=true:=h3
     simp[okAt,hn,h,h1,h2,h4]
    have finF:s.bl.all short=false→okAt bs i s=false:=fun h3=>by
     have h4:(s.bl.all fun t=>decide (t.length≤24))=false:=h3
     simp[okAt,h4]
    have hk1:s.kind<1→res=false:=fun h=>hbad (by simp[okAt,show ¬ 1≤s.kind by omega])
    have hk2:2<s.kind→res=false:=fun h=>hbad (by simp[okAt,show ¬ s.kind≤2 by omega])
    by_cases hi0:i=0
    ·subst hi0
     simp
     refine⟨fun g1=>⟨hk2,fun g2=>inner18 bs s 0 (hB s hsm) (ob1:=⟨1,[[.lst 11 (bs.map BS.row)]]⟩) ⟨[(1,1),(4,4)],by simp[qab],by simp[canon,obOf]⟩ (by simp) (fun st g3 g4=>?_) (fun st g3 t1 t3 th tu=>?_)⟩,fun g1=>hk1 (by omega)⟩
     ·simp[g4,hbad (finF g3)]
     ·simp[t1,t3,show IntKind.i64.wrap 1=1 from rfl]
      exact qbs 1 (by omega) ⟨by omega,next (fin (by simp[okPrev]) g1 g2 g3)⟩ [(1,1)] (by simp[qab,th]) (by simp[canon,obOf,th,t1])
    ·obtain⟨m,hm⟩:∃ m,i=m+1:=⟨i-1,by omega⟩
     subst hm
     obtain⟨q,q0⟩:∃ q,bs[m]=q:=⟨_,rfl⟩
     have q1:bs[m]?=some q:=by rw[← q0];exact List.getElem?_eq_getElem (by omega)
     have q2:IntKind.i64.wrap (m:Int)=(m:Int):=by rw[qao _ (by omega)]
     have q3:m<bs.length:=by omega
     have q4:=qaq q (hB q (List.mem_of_getElem? q1))
     cases hq:Op.bytesLess q.name s.name with
     | false =>
      have hrf:res=false:=hpv (by simp[okPrev,q1,hq])
      have:(Op.bytesLess s.name q.name || s.name == q.name)=true:=by rw[bytesLess_leq,hq];rfl
      simp[q0,q1,q2,q3,this,hrf,q4]
     | true =>
      have:(Op.bytesLess s.name q.name || s.name == q.name)=false:=by rw[bytesLess_leq,hq];rfl
      simp[q0,q1,q2,q3,this,q4]
      refine⟨fun g1=>⟨hk2,fun g2=>inner18 bs s (m+1) (hB s hsm) (ob1:=⟨1,[[.lst 11 (bs.map BS.row)]]⟩) ⟨[(1,1),(4,4)],by simp[qab],by simp[canon,obOf]⟩ (by simp) (fun st g3 g4=>?_) (fun st g3 t1 t3 th tu=>?_)⟩,fun g1=>hk1 (by omega)⟩
      ·simp[g4,hbad (finF g3)]
      ·have e2':IntKind.i64.wrap ((m:Int)+1+1)=(m:Int)+1+1:=qao _ (by omega)
       simp[t1,t3,e2']
       exact qbs (m+1+1) (by omega) ⟨by omega,next (fin (by simp[okPrev,q1,hq]) g1 g2 g3)⟩ [(1,1)] (by simp[qab,th]) (by simp[canon,obOf,th,t1])
  ·have hie:i=bs.length:=by omega
   subst hie
   have hok:okAll bs=true:=by
    unfold okAll
    rw[List.all_eq_true]
    intro j hj
    have hj':j<bs.length:=by simpa using hj
    have hx:bs[j]?=some bs[j]:=List.getElem?_eq_getElem hj'
    rw[hx];exact ha j hj' _ hx
   simp[ac43_l0]
   refine loop18b bs hl hB ⟨[(1,1)],by simp[qab],by simp[canon,obOf]⟩ (fun st g1 g2=>?_) (fun st g1=>?_)
   ·have:res=false:=by rw[← hres];simp[qbe,g1]
    simp[g2,this]
   ·have:res=true:=by
     rw[← hres]
     simp only[qbe,g1,hok,Bool.and_true,decide_eq_true_eq];exact h0
    simp[this]
 ·have:res=false:=by rw[← hres];simp[qbe,h0]
  have h0':(6:Int)<bs.length:=by omega
  apply vc43 (by simp) (by simp)
  simp[ac43,bk,h0',this]
end Go.Av.F

end
section
namespace Go.Av.F
open Go Go.Av
open Go.Proofs Go.Proofs.Tryz
attribute [-simp] getU hdS canon qab i64w
attribute [local simp] tt3 tt4 tt9 tt5 tt22 tt67 tt65 tt90 tt88
def bkOb (bs:List BS):Ob:=⟨11,bs.map BS.row⟩
@[simp] theorem bkOb_sz (bs:List BS):(bkOb bs).sz=11:=rfl
@[simp] theorem bkOb_els (bs:List BS):(bkOb bs).els=bs.map BS.row:=rfl
@[simp] theorem bkOb_ren (ρ:Nat→Option Plc) (bs:List BS):renOb ρ (bkOb bs)=bkOb bs:=by
 simp[renOb,bkOb]
theorem bk_take (bs:List BS):(bs.map BS.row).take bs.length=bs.map BS.row:=List.take_of_length_le (by simp)
attribute [simp] bk_take
theorem bk_all1 (bs:List BS):∀ r∈bs.map BS.row,r.all oneA=true:=by
 intro r hr
 obtain⟨b,_,rfl⟩:=List.mem_map.1 hr
 exact row_one b
theorem copyC (bs:List BS) (hl:bs.length<2000000):ACall Go.Proofs.Tryz.prog 58 [bk bs] [] (fun r L'=>r=.agg [.sl 6 0 bs.length]∧L'=[(6,bkOb bs)]):=by
 refine acx func58 [] ntmps58 rfl rfl rfl ?_
 simp[bk]
 exact⟨⟨by omega,fun b _ x hx=>row_all b x hx⟩,rfl⟩
def newB (bs:List BS) (s:BS):List BS×Int :=
 if nameB s.name=false then (bs,5) else if atB bs s.name=true then (bs,2) else if bs.length=6 then (bs,4) else (bs.take (atP bs s.name)++s::bs.drop (atP bs s.name),0)
def bkR (x:Nat) (res:List BS×Int) (r:AV) (L':List (Nat×Ob)):Prop:=∃ id,(id=1000∨id=x)∧r=.tup [.agg [.sl id 0 res.1.length],.int .i64 res.2]∧L'=[(id,bkOb res.1)]
theorem newC (bs:List BS) (s:BS) (hl:bs.length<2000000) (hB:∀ b∈bs,b.bl.length=8) (hs:s.bl.length=8) (hn:s.name.length<1000000000) :
  ACall Go.Proofs.Tryz.prog 83 [.agg [.sl 1000 0 bs.length],.agg (BS.row s)] [(1000,bkOb bs)] (bkR 45 (newB bs s)):=by
 refine acx func83 [(9,[zI 0,zJ 1 [2] [],zJ 2 [] [2],zJ 3 [1000] [],zJ 4 [3] [2,1000],zJ 7 [] [2,1000,3],zJ 5 [] [2,1000],zI 6,zI 8,zI 9,zI 10])] ntmps83 rfl rfl rfl ?_
 simp[qaq _ hs]
 refine callA_vv (by kernel_rfl) (atC bs s.name hl) (by simp[bk]) (by simp) (by simp) ?_
 simp
 refine qcb (by kernel_rfl) (bookName s.name (by omega)) (by simp) (by simp) ?_
 cases h1:nameB s.name with
 | false =>
  simp
  exact⟨[(1000,bkOb bs)],by simp,1000,.inl rfl,by simp[newB,h1],by simp[newB,h1]⟩
 | true =>
  cases h2:atB bs s.name with
  | true =>
   simp
   exact⟨[(1000,bkOb bs)],by simp,1000,.inl rfl,by simp[newB,h1,h2],by simp[newB,h1,h2]⟩
  | false =>
   by_cases h3:bs.length=6
   ·have h3':(bs.length:Int)=6:=by omega
    simp[h3]
    exact⟨[(1000,bkOb bs)],by simp,1000,.inl rfl,by simp[newB,h1,h2,h3],by simp[newB,h1,h2,h3]⟩
   ·have h3':¬ (bs.length:Int)=6:=by omega
    have hk:atP bs s.name≤bs.length:=by unfold atP;exact(List.takeWhile_sublist _).length_le
    obtain⟨k,hk0⟩:∃ k,atP bs s.name=k:=⟨_,rfl⟩
    rw[hk0]at hk
    simp[h3,h3',hk0,qaq _ hs,row_take _ hs]
    have e1:(bs.drop k).take (bs.length-k)=bs.drop k:=List.take_of_length_le (by simp)
    have e2:List.take (bs.length-k) (List.drop k (List.map BS.row bs))=(bs.drop k).map BS.row:=by
     rw[← List.map_drop,← List.map_take,e1]
    have e3:List.take (bs.length-k) ((bs.drop k).map BS.row)=(bs.drop k).map BS.row:=List.take_of_length_le (by simp)
    have e4:List.take k (List.map BS.row bs)=(bs.take k).map BS.row:=by rw[List.map_take]
    have e5:newB bs s=(bs.take k++s::bs.drop k,0):=by simp[newB,h1,h2,h3,hk0]
    have hall:∀ (l:List BS) (x:List AV),x∈l.map BS.row→∀ y,y∈x→oneA y=true:=fun l x hx y hy=>List.all_eq_true.1 (bk_all1 l x hx) y hy
    have hlen:(bs.take k++s::bs.drop k).length=k+1+(bs.length-k):=by simp;omega
    rw[e2,e3,e4,e5]
    refine⟨hk,⟨by omega,by omega,hall _⟩,hk,⟨hk,by omega,row_all s⟩,⟨by omega,by omega,hall _⟩,[(45,bkOb (bs.take k++s::bs.drop k))],?_,45,.inr rfl,by simp[hlen],rfl⟩
    have e6:(List.take (k+1) ((bs.take k).map BS.row++[BS.row s]))=(bs.take k).map BS.row++[BS.row s]:=List.take_of_length_le (by simp;omega)
    rw[← e4]at e6
    simp[bkOb,e6]
end Go.Av.F

end
section
namespace Go.Av.F
open Go Go.Av
open Go.Proofs Go.Proofs.Tryz
attribute [-simp] getU hdS canon qab i64w
attribute [local simp] tt3 tt4 tt9 tt5 tt22 tt67 tt65 tt90 tt88 tt75
def killB (bs:List BS) (k:Nat):List BS×Int :=
 match bs[k]? with
 | some t=>if bs.any (fun b=>b.frm == t.name)=true then (bs,6) else (bs.take k++bs.drop (k+1),0)
 | none=>(bs,6)
theorem killC (bs:List BS) (k:Nat) (t:BS) (hl:bs.length<2000000) (hB:∀ b∈bs,b.bl.length=8) (hk:bs[k]?=some t) :
  ACall Go.Proofs.Tryz.prog 84 [.agg [.sl 1000 0 bs.length],.int .i64 k] [(1000,bkOb bs)] (bkR 39 (killB bs k)):=by
 have hkl:=(List.getElem?_eq_some_iff.1 hk).1
 have hk0:bs[k]=t:=(List.getElem?_eq_some_iff.1 hk).2
 have ht:=hB t (List.mem_of_getElem? hk)
 refine acx func84 [(4,[zI 0,zJ 1 [2,1000] [],zJ 2 [] [2,1000],zJ 3 [1000] [],zI 4,zJ 5 [1000] [],zJ 6 [] [2,1000],zJ 7 [2,1000] [2,1000],zJ 8 [] [2,1000],zJ 9 [1000] [2,1000],zJ 10 [] [2,1000],zJ 11 [1000] [2,1000],zI 12]),(6,[zI 1,zJ 2 [2] [],zJ 3 [] [2],zJ 4 [1000] [],zJ 6 [] [2,1000],zJ 7 [2] [2,1000],zJ 8 [] [2,1000],zJ 9 [] [2,1000],zJ 10 [1000] [2,1000],zJ 0 [] [2,1000],zJ 5 [] [2,1000],zI 11,zI 12,zI 13])] ntmps84 rfl rfl rfl ?_
 simp
 refine qbu (X:=Nat) [1,2,4,5,6] (fun i=>⟨mkT [(1,.int .i64 k),(2,.ptr 2 0 0),(4,.ptr 4 0 0),(5,.int .i64 0),(6,.int .i64 i)],hpOf [(1000,bkOb bs),(2,⟨1,[[.sl 1000 0 bs.length]]⟩),(4,⟨1,[[.nils]]⟩)],Us.of [1000,1000,2,4]⟩) (fun i=>bs.length-i)
  (fun i=>i≤bs.length∧(bs.take i).any (fun b=>b.frm == t.name)=false) 0 ⟨by simp,[(1000,1000),(2,2),(4,4)],by simp[qab],by simp[canon,obOf]⟩ ?_
 rintro i ⟨hi,ha⟩
 by_cases h1:i<bs.length
 ·obtain⟨s,e0⟩:∃ s,bs[i]=s:=⟨_,rfl⟩
  have e1:bs[i]?=some s:=by rw[← e0];exact List.getElem?_eq_getElem (by omega)
  have e2:IntKind.i64.wrap ((i:Int)+1)=((i+1:Nat):Int):=by rw[qao _ (by omega)];omega
  have hs:=hB s (List.mem_of_getElem? e1)
  cases h2:s.frm == t.name with
  | true =>
   have h3:bs.any (fun b=>b.frm == t.name)=true:=by rw[List.any_eq_true];exact⟨s,List.mem_of_getElem? e1,h2⟩
   simp[h1,e0,e1,e2,qaq _ hs,qaq _ ht,hk,hk0,hkl,h2]
   have h3':bs.any (fun b=>b.frm == t.name)=true:=h3
   exact⟨[(1000,bkOb bs)],by simp,1000,.inl rfl,by simp only[killB,hk,h3',if_true],by simp only[killB,hk,h3',if_true]⟩
  | false =>
   simp[h1,e0,e1,e2,qaq _ hs,qaq _ ht,hk,hk0,hkl,h2]
   refine qbs (i+1) (by omega) ⟨by omega,?_⟩ [(1000,1000),(2,2),(4,4)] (by simp[qab]) (by simp[canon,obOf])
   have h4:(bs.take (i+1)).any (fun b=>b.frm == t.name)=false:=by
    rw[List.take_add_one,e1];simp only[List.any_append,ha,Option.toList_some,List.any_cons,h2,List.any_nil,Bool.or_self]
   simpa using h4
 ·have:i=bs.length:=by omega
  subst this
  rw[List.take_length]at ha
  have e3:IntKind.i64.wrap ((k:Int)+1)=((k+1:Nat):Int):=by rw[qao _ (by omega)];omega
  have hall:∀ (l:List BS) (x:List AV),x∈l.map BS.row→∀ y,y∈x→oneA y=true:=fun l x hx y hy=>List.all_eq_true.1 (bk_all1 l x hx) y hy
  have f1:List.take k (List.map BS.row bs)=(bs.take k).map BS.row:=by rw[List.map_take]
  have f2:List.take (bs.length-(k+1)) (List.drop (k+1) (List.map BS.row bs))=(bs.drop (k+1)).map BS.row:=by
   rw[← List.map_drop];exact List.take_of_length_le (by simp)
  have f3:killB bs k=(bs.take k++bs.drop (k+1),0):=by simp only[killB,hk,ha];simp
  simp[e3]
  rw[f1,f2,f3]
  refine⟨by omega,⟨by omega,by omega⟩,⟨by omega,by omega,hall _⟩,⟨by omega,by omega,hall _⟩,[(39,bkOb (bs.take k++bs.drop (k+1)))],?_,39,.inr rfl,by simp,rfl⟩
  simp[bkOb]
  exact List.take_of_length_le (by simp)
structure BO where
 kind:Int
 a:List UInt8
 b:List UInt8
 i:Int
 text:List UInt8
deriving DecidableEq,Inhabited
def BO.row (o:BO):List AV:=[.int .i64 o.kind,.str o.a,.str o.b,.int .i64 o.i,.str o.text]
def putB (bs:List BS) (k:Nat) (o:BO):List BS×Int :=
 match bs[k]? with
 | some t=>if o.i<0∨8≤o.i∨24<o.text.length then (bs,5) else if t.kind≠1 then (bs,3) else (bs.set k { t with bl:=t.bl.set o.i.toNat o.text },0)
 | none=>(bs,5)
theorem row_set (t:BS) (j:Nat) (x:List UInt8) (h:j<t.bl.length):List.take (3+j) t.row++AV.str x::List.drop (3+j+1) t.row=BS.row { t with bl:=t.bl.set j x }:=by
 have e1:List.take (3+j) t.row=AV.str t.name::AV.int .i64 t.kind::AV.str t.frm::(t.bl.take j).map .str:=by
  rw[show 3+j=j+1+1+1 by omega];simp[BS.row]
 have e2:List.drop (3+j+1) t.row=(t.bl.drop (j+1)).map .str:=by
  rw[show 3+j+1=j+1+1+1+1 by omega];simp[BS.row]
 rw[e1,e2]
 simp only[BS.row,List.set_eq_take_append_cons_drop,h,if_true,List.map_append,List.map_cons,List.cons_append]
theorem putC (bs:List BS) (k:Nat) (t:BS) (o:BO) (hl:bs.length<2000000) (hB:∀ b∈bs,b.bl.length=8) (hk:bs[k]?=some t) :
  ACall Go.Proofs.Tryz.prog 85 [.agg [.sl 1000 0 bs.length],.int .i64 k,.agg (BO.row o)] [(1000,bkOb bs)] (bkR 1000 (putB bs k o)):=by
 have hkl:=(List.getElem?_eq_some_iff.1 hk).1
 have hk0:bs[k]=t:=(List.getElem?_eq_some_iff.1 hk).2
 have ht:=hB t (List.mem_of_getElem? hk)
 refine acx func85 [(5,[zI 0,zJ 1 [3] [],zJ 2 [] [3],zJ 3 [] [3],zJ 4 [5] [3],zJ 5 [] [3,5],zJ 6 [5] [3,5],zJ 7 [1000] [5],zJ 8 [] [5],zI 9,zI 10])] ntmps85 rfl rfl rfl ?_
 by_cases g1:o.i<0
 ·simp[BO.row,g1]
  exact⟨[(1000,bkOb bs)],by simp,1000,.inl rfl,by simp[putB,hk,g1],by simp[putB,hk,g1]⟩
 by_cases g2:8≤o.i
 ·simp[BO.row,g1,g2]
  exact⟨[(1000,bkOb bs)],by simp,1000,.inl rfl,by simp[putB,hk,g1,g2],by simp[putB,hk,g1,g2]⟩
 by_cases g3:24<o.text.length
 ·have g3':(24:Int)<o.text.length:=by omega
  simp[BO.row,g1,g2,g3,g3']
  exact⟨[(1000,bkOb bs)],by simp,1000,.inl rfl,by simp[putB,hk,g1,g2,g3],by simp[putB,hk,g1,g2,g3]⟩
 have g3':¬ (24:Int)<o.text.length:=by omega
 by_cases g4:t.kind=1
 ·simp[BO.row,g1,g2,g3,g3',hk,hkl,hk0,g4,qaq _ ht]
  have f1:putB bs k o=(bs.set k { t with bl:=t.bl.set o.i.toNat o.text },0):=by simp[putB,hk,g1,g2,g3,g4]
  rw[f1,row_set t o.i.toNat o.text (by omega)]
  refine⟨⟨by omega,by omega⟩,by omega,[(1000,bkOb (bs.set k { t with bl:=t.bl.set o.i.toNat o.text }))],?_,1000,.inl rfl,by simp,rfl⟩
  simp[bkOb,List.map_set]
 ·simp[BO.row,g1,g2,g3,g3',hk,hkl,hk0,g4,qaq _ ht]
  exact⟨[(1000,bkOb bs)],by simp,1000,.inl rfl,by simp[putB,hk,g1,g2,g3,g4],by simp[putB,hk,g1,g2,g3,g4]⟩
end Go.Av.F

end
section
namespace Go.Av.F
open Go Go.Av
open Go.Proofs Go.Proofs.Tryz
attribute [-simp] getU hdS canon qab i64w
attribute [local simp] tt3 tt4 tt9 tt5 tt22 tt67 tt65 tt90 tt88 tt75
def backB (bs:List BS) (k:Nat) (name:List UInt8):List BS×Int :=
 match bs[k]? with
 | some t=>if atB bs name=false then (bs,1) else match bs[atP bs name]? with
  | some u=>if t.kind≠1∨u.kind≠2∨u.frm≠t.name then (bs,3) else (bs.set k { t with bl:=u.bl },0)
  | none=>(bs,1)
 | none=>(bs,1)
theorem atB_some {bs:List BS} {name:List UInt8} (h:atB bs name=true):∃ u,bs[atP bs name]?=some u∧u.name=name:=by
 unfold atB at h
 split at h
 ·rename_i u hu;exact⟨u,hu,by simpa using h⟩
 ·cases h
theorem row_blk (t u:BS) (ht:t.bl.length=8) (hu:u.bl.length=8):List.take 3 t.row++u.bl.map .str=BS.row { t with bl:=u.bl }:=by
 simp[BS.row]
theorem backC (bs:List BS) (k:Nat) (t:BS) (name:List UInt8) (hl:bs.length<2000000) (hB:∀ b∈bs,b.bl.length=8) (hk:bs[k]?=some t) :
  ACall Go.Proofs.Tryz.prog 86 [.agg [.sl 1000 0 bs.length],.int .i64 k,.str name] [(1000,bkOb bs)] (bkR 1000 (backB bs k name)):=by
 have hkl:=(List.getElem?_eq_some_iff.1 hk).1
 have hk0:bs[k]=t:=(List.getElem?_eq_some_iff.1 hk).2
 have ht:=hB t (List.mem_of_getElem? hk)
 refine acx func86 [(4,[zI 0,zJ 1 [3,1000] [],zJ 2 [] [3,1000],zJ 3 [1000] [],zI 4,zJ 5 [1000] [],zI 6,zI 7,zI 8,zJ 9 [3,1000] [],zJ 10 [] [3,1000],zJ 11 [1000] [],zI 12,zJ 13 [1000] [],zI 14,zI 15,zI 16,zI 17,zJ 18 [3,1000] [],zJ 19 [] [3,1000],zJ 20 [1000] [],zI 21,zJ 22 [1000] [],zJ 23 [] [3,1000],zJ 24 [3,1000] [3,1000],zJ 25 [] [3,1000],zJ 26 [1000] [3,1000],zJ 27 [] [3,1000],zJ 28 [1000] [3,1000],zI 29,zI 30,zI 31]),(6,[zI 0,zJ 1 [3,1000] [],zJ 2 [] [3,1000],zJ 3 [] [3,1000],zJ 4 [3,1000] [3,1000],zJ 5 [] [3,1000],zJ 6 [1000] [3,1000],zJ 7 [] [3,1000],zJ 8 [1000] [3,1000],zJ 9 [1000] [],zI 10,zI 11])] ntmps86 rfl rfl rfl ?_
 simp
 refine callA_vv (by kernel_rfl) (atC bs name hl) (by simp[bk]) (by simp) (by simp) ?_
 cases h1:atB bs name with
 | false =>
  simp
  exact⟨[(1000,bkOb bs)],by simp,1000,.inl rfl,by simp[backB,hk,h1],by simp[backB,hk,h1]⟩
 | true =>
  obtain⟨u,hu,hun⟩:=atB_some h1
  obtain⟨j,hj⟩:∃ j,atP bs name=j:=⟨_,rfl⟩
  rw[hj]at hu
  have hjl:=(List.getElem?_eq_some_iff.1 hu).1
  have hj0:bs[j]=u:=(List.getElem?_eq_some_iff.1 hu).2
  have hu8:=hB u (List.mem_of_getElem? hu)
  by_cases g1:t.kind=1
  ·by_cases g2:u.kind=2
   ·by_cases g3:u.frm=t.name
    ·have f1:backB bs k name=(bs.set k { t with bl:=u.bl },0):=by simp[backB,hk,h1,hj,hu,g1,g2,g3]
     simp[hj,hk,hkl,hk0,hu,hjl,hj0,qaq _ ht,qaq _ hu8,g1,g2,g3,f1]
     have f2:List.take 8 (List.map AV.str u.bl)=u.bl.map AV.str:=List.take_of_length_le (by simp[hu8])
     have f3:List.take 3 t.row++(u.bl.map .str++List.drop (3+min 8 u.bl.length) t.row)=BS.row { t with bl:=u.bl }:=by
      rw[show 3+min 8 u.bl.length=11 by omega,row_drop _ ht,List.append_nil,row_blk t u ht hu8]
     rw[f2,f3]
     refine⟨⟨by omega,by simp⟩,[(1000,bkOb (bs.set k { t with bl:=u.bl }))],?_,1000,.inl rfl,by simp,by rw[← g1]⟩
     simp[bkOb,List.map_set]
    ·have f1:backB bs k name=(bs,3):=by simp[backB,hk,h1,hj,hu,g3]
     simp[hj,hk,hkl,hk0,hu,hjl,hj0,qaq _ ht,qaq _ hu8,g1,g2,g3,f1]
     exact⟨[(1000,bkOb bs)],by simp,1000,.inl rfl,by simp,by simp⟩
   ·have f1:backB bs k name=(bs,3):=by simp[backB,hk,h1,hj,hu,g2]
    simp[hj,hk,hkl,hk0,hu,hjl,hj0,qaq _ ht,qaq _ hu8,g1,g2,f1]
    exact⟨[(1000,bkOb bs)],by simp,1000,.inl rfl,by simp,by simp⟩
  ·have f1:backB bs k name=(bs,3):=by simp[backB,hk,h1,hj,hu,g1]
   simp[hj,hk,hkl,hk0,hu,hjl,hj0,qaq _ ht,qaq _ hu8,g1,f1]
   exact⟨[(1000,bkOb bs)],by simp,1000,.inl rfl,by simp,by simp⟩
theorem clL_strs:∀ l:List (List UInt8),clL (l.map AV.str)=true
 | []=>rfl
 | a::r=>by simp[clL_strs r]
@[simp] theorem mtL_strs (hv:Hp) (ids:List Nat) (ρ:Nat→Option Plc) (l:List (List UInt8)):mtL hv ids ρ (l.map AV.str) (l.map AV.str):=mtL_cl _ (clL_strs l)
def zbl:List (List UInt8):=[[],[],[],[],[],[],[],[]]
def doB (bs:List BS) (o:BO):List BS×Int :=
 if o.kind=1 then newB bs ⟨o.a,1,[],zbl⟩
 else if o.kind<1∨6<o.kind then (bs,5)
 else if atB bs o.a=false then (bs,1)
 else match bs[atP bs o.a]? with
  | some t=>if o.kind=2 then killB bs (atP bs o.a) else if o.kind=3 then putB bs (atP bs o.a) o else if o.kind=6 then backB bs (atP bs o.a) o.b
   else if o.kind=5 then (if t.kind≠2 then (bs,3) else newB bs ⟨o.b,1,t.name,t.bl⟩) else (if t.kind≠1 then (bs,3) else newB bs ⟨o.b,2,t.name,t.bl⟩)
  | none=>(bs,1)
def bkRs (xs:List Nat) (res:List BS×Int) (r:AV) (L':List (Nat×Ob)):Prop:=∃ id,id∈xs∧r=.tup [.agg [.sl id 0 res.1.length],.int .i64 res.2]∧L'=[(id,bkOb res.1)]
theorem doC (bs:List BS) (o:BO) (hl:bs.length<2000000) (hB:∀ b∈bs,b.bl.length=8) (hn:∀ b∈bs,b.name.length<1000000000) (ho:o.a.length<1000000000∧o.b.length<1000000000) :
  ACall Go.Proofs.Tryz.prog 54 [.agg [.sl 1000 0 bs.length],.agg (BO.row o)] [(1000,bkOb bs)] (bkRs [1000,900] (doB bs o)):=by
 refine acx func54 [] ntmps54 rfl rfl rfl ?_
 by_cases g1:o.kind=1
 ·have f1:doB bs o=newB bs ⟨o.a,1,[],zbl⟩:=by simp[doB,g1]
  have hc:=newC bs ⟨o.a,1,[],zbl⟩ hl hB rfl ho.1
  rw[f1]
  generalize newB bs ⟨o.a,1,[],zbl⟩=res at hc
  simp[BO.row,g1]
  refine qac [(1000,.whole 1000)] (by kernel_rfl) hc (by simp[BS.row,zbl]) (by simp) (by simp;exact qad rfl (by simp)) (by simp) (by simp) ?_
  rintro r L' ⟨id,hid,rfl,rfl⟩
  rcases hid with rfl | rfl
  ·refine⟨[],⟨by simp,by simp,by simp,by simp,by simp⟩,?_⟩
   simp
   exact⟨[(1000,bkOb res.1)],by simp,1000,by simp,rfl,rfl⟩
  ·refine⟨[(45,900)],⟨by simp,by simp,by simp,by simp,by simp⟩,?_⟩
   simp
   exact⟨[(900,bkOb res.1)],by simp,900,by simp,rfl,rfl⟩
 by_cases g2:o.kind<1
 ·have f1:doB bs o=(bs,5):=by simp[doB,g1,g2]
  simp[BO.row,g1,g2,f1]
  exact⟨[(1000,bkOb bs)],by simp,1000,by simp,by simp,by simp⟩
 by_cases g3:6<o.kind
 ·have f1:doB bs o=(bs,5):=by simp[doB,g1,g3]
  simp[BO.row,g1,g2,g3,f1]
  exact⟨[(1000,bkOb bs)],by simp,1000,by simp,by simp,by simp⟩
 simp[BO.row,g1,g2,g3]
 refine callA_vv (by kernel_rfl) (atC bs o.a hl) (by simp[bk]) (by simp) (by simp) ?_
 cases h1:atB bs o.a with
 | false =>
  have f1:doB bs o=(bs,1):=by simp[doB,g1,g2,g3,h1]
  simp[f1]
  exact⟨[(1000,bkOb bs)],by simp,1000,by simp,by simp,by simp⟩
 | true =>
  obtain⟨t,ht,htn⟩:=atB_some h1
  obtain⟨k,hk⟩:∃ k,atP bs o.a=k:=⟨_,rfl⟩
  rw[hk]at ht
  have hkl:=(List.getElem?_eq_some_iff.1 ht).1
  have hk0:bs[k]=t:=(List.getElem?_eq_some_iff.1 ht).2
  have htm:=List.mem_of_getElem? ht
  have ht8:=hB t htm
  simp[hk,hkl,hk0,ht,qaq _ ht8,row_take _ ht8]
  refine⟨row_all t,?_⟩
  by_cases g4:o.kind=2
  ·have f1:doB bs o=killB bs k:=by simp[doB,h1,hk,ht,g4]
   have hc:=killC bs k t hl hB ht
   rw[f1]
   generalize killB bs k=res at hc
   simp[g4]
   refine qac [(1000,.whole 1000)] (by kernel_rfl) hc (by simp) (by simp) (by simp;exact qad rfl (by simp)) (by simp) (by simp) ?_
   rintro r L' ⟨id,hid,rfl,rfl⟩
   rcases hid with rfl | rfl
   ·refine⟨[],⟨by simp,by simp,by simp,by simp,by simp⟩,?_⟩
    simp
    exact⟨[(1000,bkOb res.1)],by simp,1000,by simp,rfl,rfl⟩
   ·refine⟨[(39,900)],⟨by simp,by simp,by simp,by simp,by simp⟩,?_⟩
    simp
    exact⟨[(900,bkOb res.1)],by simp,900,by simp,rfl,rfl⟩
  by_cases g5:o.kind=3
  ·have f1:doB bs o=putB bs k o:=by simp[doB,h1,hk,ht,g5]
   have hc:=putC bs k t o hl hB ht
   rw[f1]
   generalize putB bs k o=res at hc
   simp[g4,g5]
   refine qac [(1000,.whole 1000)] (by kernel_rfl) hc (by simp[BO.row,g5]) (by simp) (by simp;exact qad rfl (by simp)) (by simp) (by simp) ?_
   rintro r L' ⟨id,hid,rfl,rfl⟩
   have hid':id=1000:=hid.elim _root_.id _root_.id
   subst hid'
   refine⟨[],⟨by simp,by simp,by simp,by simp,by simp⟩,?_⟩
   simp
   exact⟨[(1000,bkOb res.1)],by simp,1000,by simp,rfl,rfl⟩
  by_cases g6:o.kind=6
  ·have f1:doB bs o=backB bs k o.b:=by simp[doB,h1,hk,ht,g6]
   have hc:=backC bs k t o.b hl hB ht
   rw[f1]
   generalize backB bs k o.b=res at hc
   simp[g4,g5,g6]
   refine qac [(1000,.whole 1000)] (by kernel_rfl) hc (by simp) (by simp) (by simp;exact qad rfl (by simp)) (by simp) (by simp) ?_
   rintro r L' ⟨id,hid,rfl,rfl⟩
   have hid':id=1000:=hid.elim _root_.id _root_.id
   subst hid'
   refine⟨[],⟨by simp,by simp,by simp,by simp,by simp⟩,?_⟩
   simp
   exact⟨[(1000,bkOb res.1)],by simp,1000,by simp,rfl,rfl⟩
  have m8:min 8 t.bl.length=8:=by omega
  have t8:List.take 8 (List.map AV.str t.bl)=t.bl.map AV.str:=List.take_of_length_le (by simp[ht8])
  have w1:IntKind.i64.wrap 1=1:=rfl
  have w2:IntKind.i64.wrap 2=2:=rfl
  by_cases g7:o.kind=5
  ·by_cases g8:t.kind=2
   ·have f1:doB bs o=newB bs ⟨o.b,1,t.name,t.bl⟩:=by simp[doB,h1,hk,ht,g7,g8]
    have hc:=newC bs ⟨o.b,1,t.name,t.bl⟩ hl hB ht8 ho.2
    rw[f1]
    generalize newB bs ⟨o.b,1,t.name,t.bl⟩=res at hc
    simp[g4,g5,g6,g7,g8,m8,t8,w1]
    refine qac [(1000,.whole 1000)] (by kernel_rfl) hc (by simp[BS.row]) (by simp) (by simp;exact qad rfl (by simp)) (by simp) (by simp) ?_
    rintro r L' ⟨id,hid,rfl,rfl⟩
    rcases hid with rfl | rfl
    ·refine⟨[],⟨by simp,by simp,by simp,by simp,by simp⟩,?_⟩
     simp
     exact⟨[(1000,bkOb res.1)],by simp,1000,by simp,rfl,rfl⟩
    ·refine⟨[(45,900)],⟨by simp,by simp,by simp,by simp,by simp⟩,?_⟩
     simp
     exact⟨[(900,bkOb res.1)],by simp,900,by simp,rfl,rfl⟩
   ·have f1:doB bs o=(bs,3):=by simp[doB,h1,hk,ht,g7,g8]
    simp[g4,g5,g6,g7,g8,f1]
    exact⟨[(1000,bkOb bs)],by simp,1000,by simp,by simp,by simp⟩
  ·by_cases g8:t.kind=1
   ·have f1:doB bs o=newB bs ⟨o.b,2,t.name,t.bl⟩:=by simp[doB,h1,hk,ht,g1,g2,g3,g4,g5,g6,g7,g8]
    have hc:=newC bs ⟨o.b,2,t.name,t.bl⟩ hl hB ht8 ho.2
    rw[f1]
    generalize newB bs ⟨o.b,2,t.name,t.bl⟩=res at hc
    simp[g4,g5,g6,g7,g8,m8,t8,w2]
    refine qac [(1000,.whole 1000)] (by kernel_rfl) hc (by simp[BS.row]) (by simp) (by simp;exact qad rfl (by simp)) (by simp) (by simp) ?_
    rintro r L' ⟨id,hid,rfl,rfl⟩
    rcases hid with rfl | rfl
    ·refine⟨[],⟨by simp,by simp,by simp,by simp,by simp⟩,?_⟩
     simp
     exact⟨[(1000,bkOb res.1)],by simp,1000,by simp,rfl,rfl⟩
    ·refine⟨[(45,900)],⟨by simp,by simp,by simp,by simp,by simp⟩,?_⟩
     simp
     exact⟨[(900,bkOb res.1)],by simp,900,by simp,rfl,rfl⟩
   ·have f1:doB bs o=(bs,3):=by simp[doB,h1,hk,ht,g1,g2,g3,g4,g5,g6,g7,g8]
    simp[g4,g5,g6,g7,g8,f1]
    exact⟨[(1000,bkOb bs)],by simp,1000,by simp,by simp,by simp⟩
end Go.Av.F

end
section
namespace Go.Av.F
open Go Go.Av
open Go.Proofs Go.Proofs.Tryz
attribute [-simp] getU hdS canon qab i64w
attribute [local simp] tt3 tt4 tt9 tt5 tt22 tt67 tt65 tt90 tt88 tt75
def bkN (xs:List Nat) (ok:Bool) (res:List BS×Int) (r:AV) (L':List (Nat×Ob)):Prop :=
 if ok=true then bkRs xs res r L' else (r=.tup [.agg [.nils],.int .i64 5]∧L'=[])
theorem sbookDoC (bs:List BS) (o:BO) (hl:bs.length<2000000) (hB:∀ b∈bs,b.bl.length=8) (hn:∀ b∈bs,b.name.length<1000000000) (ho:o.a.length<1000000000∧o.b.length<1000000000) :
  ACall Go.Proofs.Tryz.prog 27 [bk bs,.agg (BO.row o)] [] (bkN [901,902] (qbe bs) (doB bs o)):=by
 refine acx func27 [(3,[zJ 0 [2] [],zJ 2 [3] [2],zJ 1 [] [3],zI 3,zI 4,zI 5,zI 6,zI 7])] ntmps27 rfl rfl rfl ?_
 have hd:=doC bs o hl hB hn ho
 generalize doB bs o=res at hd
 simp[bk,BO.row]
 refine qcb (by kernel_rfl) (bookOkC bs hl hB hn) (by simp[bk]) (by simp) ?_
 cases h1:qbe bs with
 | false=>simp[bkN]
 | true =>
  simp
  refine qac [] (by kernel_rfl) (copyC bs hl) (by simp[bk]) (by simp) (by simp) (by simp) (by simp) ?_
  rintro r L' ⟨rfl,rfl⟩
  refine⟨[(6,901)],⟨by simp,by simp,by simp,by simp,by simp⟩,?_⟩
  simp
  refine qac [(1000,.whole 901)] (by kernel_rfl) hd (by simp[BO.row]) (by simp) (by simp;exact qad rfl (by simp)) (by simp) (by simp) ?_
  rintro r L' ⟨id,hid,rfl,rfl⟩
  simp only[List.mem_cons,List.not_mem_nil,or_false]at hid
  rcases hid with rfl | rfl
  ·refine⟨[],⟨by simp,by simp,by simp,by simp,by simp⟩,?_⟩
   simp
   exact⟨[(901,bkOb res.1)],by simp,901,by simp,rfl,rfl⟩
  ·refine⟨[(900,902)],⟨by simp,by simp,by simp,by simp,by simp⟩,?_⟩
   simp
   exact⟨[(902,bkOb res.1)],by simp,902,by simp,rfl,rfl⟩
end Go.Av.F

end
section
namespace Go.Av.F
open Go Go.Av
open Go.Proofs Go.Proofs.Tryz
attribute [-simp] getU hdS canon qab i64w
attribute [local simp] tt3 tt4 tt9 tt5 tt22 tt67 tt65 tt90 tt88 tt75
end Go.Av.F

end
section
namespace Go.Av.F
open Go Go.Av
open Go.Proofs Go.Proofs.Tryz
attribute [-simp] getU hdS canon qab i64w
attribute [local simp] tt3 tt4 tt9 tt5 tt22 tt67 tt65 tt90 tt88 tt75 tt167
theorem withinC (a b c:Int):ACall Go.Proofs.Tryz.prog 28 [.int .i64 a,.int .i64 b,.int .i64 c] [] (fun x L'=>x=.bool (decide (b≤a) && decide (a≤c))∧L'=[]):=by
 refine acx func28 [] ntmps28 rfl rfl rfl ?_
 simp
 constructor
 ·intros;omega
 ·intros;omega
def Srt (bs:List BS):Prop:=∀ (i j:Nat) (a b:BS),i<j→bs[i]?=some a→bs[j]?=some b→Op.bytesLess a.name b.name=true
theorem bl_trans {a b c:List UInt8} (h1:Op.bytesLess a b=true) (h2:Op.bytesLess b c=true):Op.bytesLess a c=true:=by
 simp only[Go.Proofs.bytesLess_eq,decide_eq_true_eq]at *
 exact Std.lt_trans h1 h2
end Go.Av.F

end
section
namespace Go.Av.F
open Go Go.Av
open Go.Proofs Go.Proofs.Tryz
attribute [-simp] getU hdS canon qab i64w
attribute [local simp] tt3 tt4 tt9 tt5 tt22 tt67 tt65 tt90 tt88 tt75 tt167
def idxB (p:BS→Bool) (bs:List BS):Int:=match bs.findIdx? p with
 | some i=>i
 | none=>-1
@[simp] theorem mtL_row (hv:Hp) (ids:List Nat) (ρ:Nat→Option Plc) (b:BS):mtL hv ids ρ (BS.row b) (BS.row b):=mtL_cl _ (row_cl b)
theorem idx_step (p:BS→Bool):∀ (bs:List BS) (i:Nat) (s:BS),(∀ j,j<i→∀ y,bs[j]?=some y→p y=false)→bs[i]?=some s→p s=true→bs.findIdx? p=some i
 | [],i,s,_,h,_=>by simp at h
 | a::r,0,s,_,h,hp=>by
  simp only[List.getElem?_cons_zero,Option.some.injEq]at h
  subst h;simp[List.findIdx?_cons,hp]
 | a::r,i+1,s,hb,h,hp=>by
  have h0:p a=false:=hb 0 (by omega) a (by simp)
  have:=idx_step p r i s (fun j hj y hy=>hb (j+1) (by omega) y (by simpa using hy)) (by simpa using h) hp
  simp[List.findIdx?_cons,h0,this]
theorem idxC (p:BS→Bool) (g:Nat) (o:Ob) (bs:List BS) (hl:bs.length<2000000) (hB:∀ b∈bs,b.bl.length=8) (ho:∀ ρ,renOb ρ o=o) (hc:clR o.els=true) (en:enters Go.Proofs.Tryz.prog g=true)
  (hg:∀ s∈bs,ACall Go.Proofs.Tryz.prog g [.agg (BS.row s),.ptr 1000 0 0] [(1000,o)] (fun r L'=>r=.bool (p s)∧L'=[(1000,o)])) :
  ACall Go.Proofs.Tryz.prog 95 [.lst 11 (bs.map BS.row),.fn g [.ptr 1000 0 0]] [(1000,o)] (fun r L'=>r=.int .i64 (idxB p bs)∧L'=[(1000,o)]):=by
 refine acx func95 [] ntmps95 rfl rfl rfl ?_
 simp
 refine qbu (X:=Nat) [0,1,7,8] (fun i=>⟨mkT [(0,.lst 11 (bs.map BS.row)),(1,.fn g [.ptr 1000 0 0]),(7,.int .i64 bs.length),(8,.int .i64 i)],hpOf [(1000,o)],Us.of [1000,1000]⟩) (fun i=>bs.length-i)
  (fun i=>i≤bs.length∧∀ j,j<i→∀ y,bs[j]?=some y→p y=false) 0 ⟨by simp,[(1000,1000)],by simp[qab],by simp[canon,obOf,ho]⟩ ?_
 rintro i ⟨hi,ha⟩
 by_cases h1:i<bs.length
 ·obtain⟨s,e0⟩:∃ s,bs[i]=s:=⟨_,rfl⟩
  have e1:bs[i]?=some s:=by rw[← e0];exact List.getElem?_eq_getElem h1
  have hsm:=List.mem_of_getElem? e1
  have hs:=hB s hsm
  have e2:IntKind.i64.wrap ((i:Int)+1)=((i+1:Nat):Int):=by rw[qao _ (by omega)];omega
  simp[h1,e0,e1,qaq _ hs,row_take _ hs]
  refine qac [(1000,.whole 1000)] en (hg s hsm) (by simp) (by simp) (by simp;exact qad rfl hc) (by simp) (by simp) ?_
  rintro r L' ⟨rfl,rfl⟩
  refine⟨[],⟨by simp,by simp,by simp,by simp,by simp⟩,?_⟩
  cases hp:p s with
  | true =>
   have:=idx_step p bs i s ha e1 hp
   simp[ho,idxB,this]
  | false =>
   simp[ho,e2]
   refine qbs (i+1) (by omega) ⟨by omega,fun j hj y hy=>?_⟩ [(1000,1000)] (by simp[qab]) (by simp[canon,obOf,ho])
   by_cases hji:j=i
   ·subst hji;rw[e1]at hy;injection hy with hy;subst hy;exact hp
   ·exact ha j (by omega) y hy
 ·have hie:i=bs.length:=by omega
  have:bs.findIdx? p=none:=by
   rw[List.findIdx?_eq_none_iff]
   intro x hx
   obtain⟨j,hj,e⟩:=List.mem_iff_getElem.1 hx
   exact ha j (by omega) x (by rw[← e];exact List.getElem?_eq_getElem hj)
  subst hie
  simp[idxB,this]
end Go.Av.F

end
section
namespace Go.Av.F
open Go Go.Av
open Go.Proofs Go.Proofs.Tryz
attribute [-simp] getU hdS canon qab i64w
attribute [local simp] tt3 tt4 tt9 tt5 tt22 tt67 tt65 tt90 tt88 tt75 tt167
def sOb (s:BS):Ob:=⟨11,[BS.row s]⟩
@[simp] theorem sOb_ren (ρ:Nat→Option Plc) (s:BS):renOb ρ (sOb s)=sOb s:=by simp[sOb]
theorem sOb_cl (s:BS):clR (sOb s).els=true:=by simp[sOb,clR]
theorem leadsFC (s x:BS) (hs:s.bl.length=8) (hx:x.bl.length=8):ACall Go.Proofs.Tryz.prog 96 [.agg (BS.row x),.ptr 1000 0 0] [(1000,sOb s)] (fun r L'=>r=.bool (x.name == s.frm)∧L'=[(1000,sOb s)]):=by
 refine acx func96 [] ntmps96 rfl rfl rfl ?_
 simp[sOb,qaq _ hs,qaq _ hx]
def leadsB (bs:List BS):Nat→BS→Bool
 | 0,_=>false
 | n+1,s=>if s.frm=[] then s.kind == 1 else
   match bs.findIdx? (fun x=>x.name == s.frm)with
   | some j=>match bs[j]? with
    | some t=>if t.kind=s.kind then false else leadsB bs n t
    | none=>false
   | none=>false
theorem leadsC (bs:List BS) (s:BS) (hl:bs.length<2000000) (hB:∀ b∈bs,b.bl.length=8) (hs:s.bl.length=8):ACall Go.Proofs.Tryz.prog 68 [bk bs,.agg (BS.row s)] [] (fun r L'=>r=.bool (leadsB bs bs.length s)∧L'=[]):=by
 obtain⟨res,hres⟩:∃ res,leadsB bs bs.length s=res:=⟨_,rfl⟩
 rw[hres]
 refine acx func68 [(6,[zI 0,zI 1,zI 2,zI 3,zJ 4 [2] [],zJ 5 [] [2],zI 6,zI 7,zI 8,zJ 9 [] [2],zJ 10 [3] [2],zI 11,zI 12])] ntmps68 rfl rfl rfl ?_
 simp[bk,qaq _ hs]
 refine qbu (X:=Nat×BS) [2,3,8,9] (fun x=>⟨mkT [(2,.ptr 2 0 0),(3,.ptr 3 0 0),(8,.int .i64 bs.length),(9,.int .i64 x.1)],hpOf [(2,⟨1,[[.lst 11 (bs.map BS.row)]]⟩),(3,sOb x.2)],Us.of [2,3]⟩) (fun x=>bs.length-x.1)
  (fun x=>x.1≤bs.length∧x.2.bl.length=8∧res=leadsB bs (bs.length-x.1) x.2) (0,s) ⟨⟨by simp,hs,hres.symm⟩,[(2,2),(3,3)],by simp[qab],by simp[canon,obOf,sOb]⟩ ?_
 rintro⟨i,t⟩ ⟨hi,ht,he⟩
 simp only at hi ht he
 by_cases h1:i<bs.length
 ·obtain⟨n,hn⟩:∃ n,bs.length-i=n+1:=⟨bs.length-i-1,by omega⟩
  have e2:IntKind.i64.wrap ((i:Int)+1)=((i+1:Nat):Int):=by rw[qao _ (by omega)];omega
  rw[hn]at he
  by_cases h2:t.frm=[]
  ·simp[h1,h2,he,leadsB,sOb]
  ·simp[h1,h2,sOb]
   refine qac [(1000,.whole 3)] (by kernel_rfl) (idxC (fun x=>x.name == t.frm) 96 (sOb t) bs hl hB (fun ρ=>sOb_ren ρ t) (sOb_cl t) (by kernel_rfl) (fun x hx=>leadsFC t x ht (hB x hx))) (by simp) (by simp) (by simp;exact⟨rfl,qad rfl (by simp[clR])⟩) (by simp) (by simp) ?_
   rintro r L' ⟨rfl,rfl⟩
   refine⟨[],⟨by simp,by simp,by simp,by simp,by simp⟩,?_⟩
   cases hf:bs.findIdx? (fun x=>x.name == t.frm)with
   | none =>
    have:res=false:=by rw[he];simp[leadsB,h2,hf]
    simp[idxB,hf,this]
   | some j =>
    have hjl:j<bs.length:=(List.findIdx?_eq_some_iff_findIdx_eq.1 hf).1
    obtain⟨u,e0⟩:∃ u,bs[j]=u:=⟨_,rfl⟩
    have e1:bs[j]?=some u:=by rw[← e0];exact List.getElem?_eq_getElem hjl
    have hu:=hB u (List.mem_of_getElem? e1)
    by_cases h4:u.kind=t.kind
    ·have:res=false:=by rw[he];simp[leadsB,h2,hf,e1,h4]
     simp[idxB,hf,hjl,e0,e1,h4,this,qaq _ hu,qaq _ ht,sOb]
    ·have e5:res=leadsB bs n u:=by rw[he];simp[leadsB,h2,hf,e1,h4]
     simp[idxB,hf,hjl,e0,e1,h4,qaq _ hu,qaq _ ht,row_take _ hu,row_drop _ ht,e2,sOb]
     refine⟨⟨row_all u,?_⟩,fun h=>by omega⟩
     refine qbs (i+1,u) (by simp only;omega) ⟨by simp only;omega,hu,?_⟩ [(2,2),(3,3)] (by simp[qab]) (by simp[canon,obOf,sOb])
     simp only;rw[e5];congr 1;omega
 ·have:res=false:=by rw[he,show bs.length-i=0 by omega];rfl
  simp[h1,this]
end Go.Av.F

end
section
namespace Go.Av.F
open Go Go.Av
open Go.Proofs Go.Proofs.Tryz
attribute [-simp] getU hdS canon qab i64w
attribute [local simp] tt3 tt4 tt9 tt5 tt22 tt162
def setL (l:List UInt8):List AV:=(List.range 256).map fun i=>.bool (l.any fun c=>c.toNat == i)
@[simp] theorem setL_len (l:List UInt8):(setL l).length=256:=by simp[setL]
theorem setL_nil:setL []=List.replicate 256 (.bool false):=by
 rw[List.eq_replicate_iff]
 refine⟨setL_len _,fun x hx=>?_⟩
 simp only[setL,List.mem_map]at hx
 obtain⟨_,_,rfl⟩:=hx
 rfl
theorem setL_get (l:List UInt8) (c:UInt8):(setL l)[c.toNat]?=some (.bool (l.any fun d=>d == c)):=by
 have hc:c.toNat<256:=c.toNat_lt
 have:∀ d:UInt8,(d.toNat == c.toNat)=(d == c):=fun d=>by
  by_cases h:d=c
  ·simp[h]
  ·have:d.toNat≠c.toNat:=fun e=>h (UInt8.toNat_inj.1 e)
   rw[beq_false_of_ne h,beq_false_of_ne this]
 simp[setL,hc,this]
theorem setL_clL:∀ l,clL (setL l)=true:=fun l=>by
 have:∀ (m:List Nat) (f:Nat→Bool),clL (m.map fun i=>AV.bool (f i))=true:=fun m f=>by induction m <;> simp_all
 exact this _ _
def setOb (l:List UInt8):Ob:=⟨256,[setL l]⟩
theorem setL_ren (ρ:Nat→Option Plc) (l:List UInt8):renL ρ (setL l)=setL l:=by
 have:∀ (m:List Nat) (f:Nat→Bool),renL ρ (m.map fun i=>AV.bool (f i))=m.map fun i=>AV.bool (f i):=fun m f=>by induction m <;> simp_all
 exact this _ _
@[simp] theorem setOb_ren (ρ:Nat→Option Plc) (l:List UInt8):renOb ρ (setOb l)=setOb l:=by simp[setOb,setL_ren]
theorem containsC (l:List UInt8) (c:UInt8):ACall Go.Proofs.Tryz.prog 127 [.ptr 1000 0 0,.int .u8 c.toNat] [(1000,setOb l)] (fun r L'=>r=.bool (l.any fun d=>d == c)∧L'=[(1000,setOb l)]):=by
 have hc:c.toNat<256:=c.toNat_lt
 refine acx func127 [] ntmps127 rfl rfl rfl ?_
 have hg:(setL l)[c.toNat]'(by rw[setL_len];exact hc)=.bool (l.any fun d=>d == c):=by
  have:=setL_get l c
  rw[List.getElem?_eq_getElem (by rw[setL_len];exact hc)]at this
  injection this
 simp[setOb,setL_get,hc,hg]
 omega
theorem setL_put (l:List UInt8) (c:UInt8):(setL l).set c.toNat (.bool true)=setL (l++[c]):=by
 apply List.ext_getElem
 ·simp
 ·intro i h1 h2
  have hi:i<256:=by simpa using h2
  rw[List.getElem_set]
  by_cases h:c.toNat=i
  ·subst h;simp[setL]
  ·have:(c.toNat == i)=false:=beq_false_of_ne h
   simp[setL,h,this]
theorem asciiC (cs:List UInt8) (hl:cs.length<2000000) (hc:∀ c∈cs,c.toNat<128):ACall Go.Proofs.Tryz.prog 117 [.str cs] [] (fun r L'=>r=.tup [.agg (setL cs),.bool true]∧L'=[]):=by
 refine acx func117 [] ntmps117 rfl rfl rfl ?_
 have hz:=setL_nil
 simp[← hz]
 refine qbu (X:=Nat) [0,2,4] (fun i=>⟨mkT [(0,.str cs),(2,.ptr 2 0 0),(4,.int .i64 i)],hpOf [(2,setOb (cs.take i))],Us.of [2]⟩) (fun i=>cs.length-i) (fun i=>i≤cs.length) 0 ⟨by simp,[(2,2)],by simp[qab],by simp[canon,obOf,setOb,setL_ren]⟩ ?_
 intro i hi
 by_cases h1:i<cs.length
 ·obtain⟨x,e0⟩:∃ x,cs[i]=x:=⟨_,rfl⟩
  have e1:cs[i]?=some x:=by rw[← e0];exact List.getElem?_eq_getElem h1
  have hx:=hc x (List.mem_of_getElem? e1)
  have e2:IntKind.i64.wrap ((i:Int)+1)=((i+1:Nat):Int):=by rw[qao _ (by omega)];omega
  have hx':¬ (128:Int)≤x.toNat:=by omega
  have f1:List.take x.toNat (setL (cs.take i))++AV.bool true::List.drop (x.toNat+1) (setL (cs.take i))=setL (cs.take (i+1)):=by
   have:=setL_put (cs.take i) x
   rw[List.set_eq_take_append_cons_drop,if_pos (by rw[setL_len];omega)]at this
   rw[this,List.take_add_one,e1];rfl
  simp[h1,e0,e1,e2,hx',setOb,f1]
  refine⟨by omega,by omega,?_⟩
  exact qbs (i+1) (by omega) (by omega) [(2,2)] (by simp[qab]) (by simp[canon,obOf,setOb,setL_ren])
 ·have:i=cs.length:=by omega
  subst this
  have f2:List.take 256 (setL cs)=setL cs:=List.take_of_length_le (by simp)
  simp[setOb,f2]
  intro x hx
  simp only[setL,List.mem_map]at hx
  obtain⟨_,_,rfl⟩:=hx
  rfl
end Go.Av.F

end
section
namespace Go.Av.F
open Go Go.Av
open Go.Proofs Go.Proofs.Tryz
attribute [-simp] getU hdS canon qab i64w
attribute [local simp] tt3 tt4 tt9 tt5 tt22 tt162
def inS (l:List UInt8) (c:UInt8):Bool:=l.any fun d=>d == c
theorem setOb_cl (l:List UInt8):clR (setOb l).els=true:=by simp[setOb,clR,setL_clL]
theorem trimLC (l s:List UInt8) (hl:s.length<2000000):ACall Go.Proofs.Tryz.prog 118 [.str s,.ptr 1000 0 0] [(1000,setOb l)] (fun r L'=>r=.str (s.dropWhile (inS l))∧L'=[(1000,setOb l)]):=by
 obtain⟨res,hres⟩:∃ res,s.dropWhile (inS l)=res:=⟨_,rfl⟩
 rw[hres]
 refine acx func118 [] ntmps118 rfl rfl rfl ?_
 simp
 refine qbu (X:=List UInt8) [0,1] (fun t=>⟨mkT [(0,.str t),(1,.ptr 1000 0 0)],hpOf [(1000,setOb l)],Us.of [1000,1000]⟩) (fun t=>t.length) (fun t=>t.length<2000000∧t.dropWhile (inS l)=res) s ⟨⟨hl,hres⟩,[(1000,1000)],by simp[qab],by simp[canon,obOf]⟩ ?_
 rintro t ⟨ht,he⟩
 cases t with
 | nil =>
  simp
  simpa using he
 | cons c t =>
  simp
  refine qac [(1000,.whole 1000)] (by kernel_rfl) (containsC l c) (by simp) (by simp) (by simp;exact qad rfl (setOb_cl l)) (by simp) (by simp) ?_
  rintro r L' ⟨rfl,rfl⟩
  refine⟨[],⟨by simp,by simp,by simp,by simp,by simp⟩,?_⟩
  have hd:(l.any fun d=>d == c)=inS l c:=rfl
  rw[hd]
  cases hc:inS l c with
  | true =>
   have he':t.dropWhile (inS l)=res:=by rw[← he];simp[List.dropWhile,hc]
   simp
   refine qbs t (by simp) ⟨by simp at ht;omega,he'⟩ [(1000,1000)] (by simp[qab]) (by simp[canon,obOf])
  | false =>
   have he':c::t=res:=by rw[← he];simp[List.dropWhile,hc]
   simp[he']
theorem trimRC (l s:List UInt8) (hl:s.length<2000000):ACall Go.Proofs.Tryz.prog 119 [.str s,.ptr 1000 0 0] [(1000,setOb l)] (fun r L'=>r=.str (s.reverse.dropWhile (inS l)).reverse∧L'=[(1000,setOb l)]):=by
 obtain⟨res,hres⟩:∃ res,(s.reverse.dropWhile (inS l)).reverse=res:=⟨_,rfl⟩
 rw[hres]
 refine acx func119 [] ntmps119 rfl rfl rfl ?_
 simp
 refine qbu (X:=List UInt8) [0,1] (fun t=>⟨mkT [(0,.str t),(1,.ptr 1000 0 0)],hpOf [(1000,setOb l)],Us.of [1000,1000]⟩) (fun t=>t.length) (fun t=>t.length<2000000∧(t.reverse.dropWhile (inS l)).reverse=res) s ⟨⟨hl,hres⟩,[(1000,1000)],by simp[qab],by simp[canon,obOf]⟩ ?_
 rintro t ⟨ht,he⟩
 rcases List.eq_nil_or_concat t with rfl | ⟨u,c,rfl⟩
 ·simp
  simpa using he
 ·simp only[List.concat_eq_append]at *
  have hul:u.length<2000000:=by simp at ht;omega
  have e1:IntKind.i64.wrap ((u.length:Int)+1-1)=(u.length:Int):=by rw[qao _ (by omega)];omega
  have e2:IntKind.i64.wrap (u.length:Int)=(u.length:Int):=qao _ (by omega)
  have e3:(u++[c])[u.length]?=some c:=by simp
  simp[e1,e2,e3]
  refine⟨by omega,?_⟩
  refine qac [(1000,.whole 1000)] (by kernel_rfl) (containsC l c) (by simp) (by simp) (by simp;exact qad rfl (setOb_cl l)) (by simp) (by simp) ?_
  rintro r L' ⟨rfl,rfl⟩
  refine⟨[],⟨by simp,by simp,by simp,by simp,by simp⟩,?_⟩
  have hd:(l.any fun d=>d == c)=inS l c:=rfl
  rw[hd]
  cases hc:inS l c with
  | true =>
   have he':(u.reverse.dropWhile (inS l)).reverse=res:=by rw[← he];simp[List.dropWhile,hc]
   simp[e1,e2]
   exact qbs u (by simp) ⟨hul,he'⟩ [(1000,1000)] (by simp[qab]) (by simp[canon,obOf])
  | false =>
   have he':u++[c]=res:=by rw[← he];simp[List.dropWhile,hc]
   simp[he']
end Go.Av.F

end
section
namespace Go.Av.F
open Go Go.Av
open Go.Proofs Go.Proofs.Tryz
attribute [-simp] getU hdS canon qab i64w
attribute [local simp] tt3 tt4 tt9 tt5 tt22 tt162
def stripS (l s:List UInt8):List UInt8:=((s.reverse.dropWhile (inS l)).reverse).dropWhile (inS l)
theorem trimC (s cs:List UInt8) (hl:s.length<2000000) (hs:s≠[]) (hcl:2≤cs.length) (hcl2:cs.length<2000000) (hc:∀ c∈cs,c.toNat<128) :
  ACall Go.Proofs.Tryz.prog 93 [.str s,.str cs] [] (fun r L'=>r=.str (stripS cs s)∧L'=[]):=by
 have h1:cs≠[]:=by rintro rfl;simp at hcl
 have h2:¬ cs.length=1:=by omega
 have h2':¬ (cs.length:Int)=1:=by omega
 have hz:=setL_nil
 refine acx func93 [(4,[zI 0,zI 1,zI 2,zI 4,zI 5,zI 3,zI 6,zI 7])] ntmps93 rfl rfl rfl ?_
 simp[hs,h1,h2,h2',← hz]
 refine qcb (by kernel_rfl) (asciiC cs hcl2 hc) (by simp) (by simp[setL_clL]) ?_
 simp
 refine⟨fun x hx=>?_,?_⟩
 ·simp only[setL,List.mem_map]at hx
  obtain⟨_,_,rfl⟩:=hx
  rfl
 refine qac [(1000,.whole 5)] (by kernel_rfl) (trimRC cs s hl) (by simp) (by simp) (by simp;exact⟨rfl,qad rfl (by simp[clR,setL_clL])⟩) (by simp) (by simp) ?_
 rintro r L' ⟨rfl,rfl⟩
 refine⟨[],⟨by simp,by simp,by simp,by simp,by simp⟩,?_⟩
 simp
 have hl2:((s.reverse.dropWhile (inS cs)).reverse).length<2000000:=by
  have:=(List.dropWhile_sublist (inS cs) (l:=s.reverse)).length_le
  simp at this ⊢;omega
 refine qac [(1000,.whole 5)] (by kernel_rfl) (trimLC cs _ hl2) (by simp) (by simp) (by simp;exact qad rfl (setOb_cl cs)) (by simp) (by simp) ?_
 rintro r L' ⟨rfl,rfl⟩
 refine⟨[],⟨by simp,by simp,by simp,by simp,by simp⟩,?_⟩
 simp[stripS]
end Go.Av.F

end
section
namespace Go.Av.F
open Go Go.Av
open Go.Proofs Go.Proofs.Tryz
attribute [-simp] getU hdS canon qab i64w
attribute [local simp] tt3 tt4 tt9 tt5 tt22 tt162
def abc:List UInt8:=[97,98,99,100,101,102,103,104,105,106,107,108,109,110,111,112,113,114,115,116,117,118,119,120,121,122]
theorem dropWhile_nil_iff {α:Type} (p:α→Bool):∀ l:List α,l.dropWhile p=[]↔l.all p=true
 | []=>by simp
 | a::r=>by
  cases h:p a <;> simp[List.dropWhile,h,dropWhile_nil_iff p r]
theorem dropWhile_head {α:Type} (p:α→Bool):∀ (l:List α) (a:α) (r:List α),l.dropWhile p=a::r→p a=false
 | [],a,r,h=>by simp at h
 | b::l,a,r,h=>by
  cases hb:p b with
  | true=>simp[List.dropWhile,hb]at h;exact dropWhile_head p l a r h
  | false=>simp[List.dropWhile,hb]at h;rw[← h.1];exact hb
theorem strip_nil (l s:List UInt8):stripS l s=[]↔s.all (inS l)=true:=by
 unfold stripS
 constructor
 ·intro h
  by_cases h2:(s.reverse.dropWhile (inS l))=[]
  ·have:=(dropWhile_nil_iff _ _).1 h2
   simpa using this
  ·exfalso
   have h3:=(dropWhile_nil_iff _ _).1 h
   cases h4:s.reverse.dropWhile (inS l)with
   | nil=>exact h2 h4
   | cons a r =>
    have h5:=dropWhile_head _ _ _ _ h4
    rw[h4]at h3
    simp[h5]at h3
 ·intro h
  have h2:s.reverse.dropWhile (inS l)=[]:=(dropWhile_nil_iff _ _).2 (by simpa using h)
  rw[h2];rfl
theorem inS_abc (c:UInt8):inS abc c=lowB c:=by
 have:∀ n:Fin 256,inS abc (UInt8.ofNat n)=lowB (UInt8.ofNat n):=by decide
 have h:=this ⟨c.toNat,c.toNat_lt⟩
 simpa using h
theorem ibookName (s:List UInt8) (hs:s.length<2000000):ACall Go.Proofs.Tryz.prog 62 [.str s] [] (fun r L'=>r=.bool (nameB s)∧L'=[]):=by
 refine acx func62 [] ntmps62 rfl rfl rfl ?_
 simp
 refine qcb (by kernel_rfl) (withinC s.length 1 6) (by simp) (by simp) ?_
 have hall:s.all (inS abc)=s.all lowB:=by congr 1;funext c;exact inS_abc c
 by_cases h1:1≤s.length∧s.length≤6
 ·have h2:s≠[]:=by rintro rfl;simp at h1
  have h3:(decide ((1:Int)≤s.length) && decide ((s.length:Int)≤6))=true:=by simp;omega
  rw[h3]
  simp
  refine qcb (by kernel_rfl) (trimC s abc hs h2 (by simp[abc]) (by simp[abc]) (by decide)) (by simp) (by simp) ?_
  have h4:(stripS abc s == [])=nameB s:=by
   have h5:(stripS abc s == [])=s.all lowB:=by
    cases h6:s.all lowB with
    | true=>rw[(strip_nil abc s).2 (by rw[hall];exact h6)];rfl
    | false =>
     have:stripS abc s≠[]:=fun e=>by
      have:=(strip_nil abc s).1 e
      rw[hall,h6]at this;cases this
     exact beq_false_of_ne this
   rw[h5];simp[nameB,h1.2];omega
  simp[h4]
 ·have h3:(decide ((1:Int)≤s.length) && decide ((s.length:Int)≤6))=false:=by simp;omega
  have h4:nameB s=false:=by
   simp only[nameB,Bool.and_eq_false_iff,decide_eq_false_iff_not];omega
  rw[h3]
  simp[h4]
end Go.Av.F

end
section
namespace Go.Av.F
open Go Go.Av
open Go.Proofs Go.Proofs.Tryz
attribute [-simp] getU hdS canon qab i64w
attribute [local simp] tt3 tt4 tt9 tt5 tt22 tt67 tt65 tt90 tt88 tt75 tt52
theorem longC (t:List UInt8):ACall Go.Proofs.Tryz.prog 65 [.str t] [] (fun r L'=>r=.bool (!short t)∧L'=[]):=by
 refine acx func65 [] ntmps65 rfl rfl rfl ?_
 by_cases h:t.length≤24
 ·have h2:¬ (24:Int)<t.length:=by omega
  simp[short,h,h2]
 ·have h2:(24:Int)<t.length:=by omega
  simp[short,h,h2]
def idxS {α:Type} (p:α→Bool) (bs:List α):Int:=match bs.findIdx? p with
 | some i=>i
 | none=>-1
theorem idxS_neg {α:Type} (p:α→Bool) (bs:List α):decide (0≤idxS p bs)=bs.any p:=by
 unfold idxS
 cases h:bs.findIdx? p with
 | none =>
  rw[List.findIdx?_eq_none_iff]at h
  have:bs.any p=false:=by rw[List.any_eq_false];intro x hx;simp[h x hx]
  simp[this]
 | some i =>
  have:bs.any p=true:=by
   have h2:=(List.findIdx?_eq_some_iff_getElem.1 h)
   obtain⟨hi,hp,_⟩:=h2
   rw[List.any_eq_true];exact⟨_,List.getElem_mem hi,hp⟩
  simp[this]
theorem idx_stepG {α:Type} (p:α→Bool):∀ (bs:List α) (i:Nat) (s:α),(∀ j,j<i→∀ y,bs[j]?=some y→p y=false)→bs[i]?=some s→p s=true→bs.findIdx? p=some i
 | [],i,s,_,h,_=>by simp at h
 | a::r,0,s,_,h,hp=>by
  simp only[List.getElem?_cons_zero,Option.some.injEq]at h
  subst h;simp[List.findIdx?_cons,hp]
 | a::r,i+1,s,hb,h,hp=>by
  have h0:p a=false:=hb 0 (by omega) a (by simp)
  have:=idx_stepG p r i s (fun j hj y hy=>hb (j+1) (by omega) y (by simpa using hy)) (by simpa using h) hp
  simp[List.findIdx?_cons,h0,this]
theorem idxSC (p:List UInt8→Bool) (g:Nat) (bs:List (List UInt8)) (hl:bs.length<2000000) (en:enters Go.Proofs.Tryz.prog g=true)
  (hg:∀ s∈bs,ACall Go.Proofs.Tryz.prog g [.str s] [] (fun r L'=>r=.bool (p s)∧L'=[])) :
  ACall Go.Proofs.Tryz.prog 94 [.lst 1 (bs.map qav),.fn g []] [] (fun r L'=>r=.int .i64 (idxS p bs)∧L'=[]):=by
 refine acx func94 [] ntmps94 rfl rfl rfl ?_
 simp
 refine qbu (X:=Nat) [0,1,7,8] (fun i=>⟨mkT [(0,.lst 1 (bs.map qav)),(1,.fn g []),(7,.int .i64 bs.length),(8,.int .i64 i)],hpOf [],Us.of []⟩) (fun i=>bs.length-i)
  (fun i=>i≤bs.length∧∀ j,j<i→∀ y,bs[j]?=some y→p y=false) 0 ⟨by simp,[],by simp[qab],by simp[canon]⟩ ?_
 rintro i ⟨hi,ha⟩
 by_cases h1:i<bs.length
 ·obtain⟨s,e0⟩:∃ s,bs[i]=s:=⟨_,rfl⟩
  have e1:bs[i]?=some s:=by rw[← e0];exact List.getElem?_eq_getElem h1
  have hsm:=List.mem_of_getElem? e1
  have e2:IntKind.i64.wrap ((i:Int)+1)=((i+1:Nat):Int):=by rw[qao _ (by omega)];omega
  simp[h1,e0,e1,qav]
  refine qcb en (hg s hsm) (by simp) (by simp) ?_
  cases hp:p s with
  | true =>
   have:=idx_stepG p bs i s ha e1 hp
   simp[idxS,this]
  | false =>
   simp[e2]
   refine qbs (i+1) (by omega) ⟨by omega,fun j hj y hy=>?_⟩ [] (by simp[qab]) (by simp[canon,qav])
   by_cases hji:j=i
   ·subst hji;rw[e1]at hy;injection hy with hy;subst hy;exact hp
   ·exact ha j (by omega) y hy
 ·have hie:i=bs.length:=by omega
  have:bs.findIdx? p=none:=by
   rw[List.findIdx?_eq_none_iff]
   intro x hx
   obtain⟨j,hj,e⟩:=List.mem_iff_getElem.1 hx
   exact ha j (by omega) x (by rw[← e];exact List.getElem?_eq_getElem hj)
  subst hie
  simp[idxS,this]
theorem contSC (p:List UInt8→Bool) (g:Nat) (bs:List (List UInt8)) (hl:bs.length<2000000) (en:enters Go.Proofs.Tryz.prog g=true)
  (hg:∀ s∈bs,ACall Go.Proofs.Tryz.prog g [.str s] [] (fun r L'=>r=.bool (p s)∧L'=[])) :
  ACall Go.Proofs.Tryz.prog 64 [.lst 1 (bs.map qav),.fn g []] [] (fun r L'=>r=.bool (bs.any p)∧L'=[]):=by
 refine acx func64 [] ntmps64 rfl rfl rfl ?_
 simp
 refine qcb (by kernel_rfl) (idxSC p g bs hl en hg) (by simp) (by simp) ?_
 have:=idxS_neg p bs
 simp[this]
end Go.Av.F

end
section
namespace Go.Av.F
open Go Go.Av
open Go.Proofs Go.Proofs.Tryz
attribute [-simp] getU hdS canon qab i64w
attribute [local simp] tt3 tt4 tt9 tt5 tt22 tt67 tt65 tt90 tt88 tt75 tt52
theorem idxB_eq (p:BS→Bool) (bs:List BS):idxB p bs=idxS p bs:=rfl
theorem contC (p:BS→Bool) (g:Nat) (o:Ob) (bs:List BS) (hl:bs.length<2000000) (hB:∀ b∈bs,b.bl.length=8) (ho:∀ ρ,renOb ρ o=o) (hc:clR o.els=true) (en:enters Go.Proofs.Tryz.prog g=true)
  (hg:∀ s∈bs,ACall Go.Proofs.Tryz.prog g [.agg (BS.row s),.ptr 1000 0 0] [(1000,o)] (fun r L'=>r=.bool (p s)∧L'=[(1000,o)])) :
  ACall Go.Proofs.Tryz.prog 66 [.lst 11 (bs.map BS.row),.fn g [.ptr 1000 0 0]] [(1000,o)] (fun r L'=>r=.bool (bs.any p)∧L'=[(1000,o)]):=by
 refine acx func66 [] ntmps66 rfl rfl rfl ?_
 simp
 refine qac [(1000,.whole 1000)] (by kernel_rfl) (idxC p g o bs hl hB ho hc en hg) (by simp) (by simp) (by simp;exact qad rfl hc) (by simp) (by simp) ?_
 rintro r L' ⟨rfl,rfl⟩
 refine⟨[],⟨by simp,by simp,by simp,by simp,by simp⟩,?_⟩
 have:=idxS_neg p bs
 rw[← idxB_eq]at this
 simp[ho,this]
theorem okF2C (bs:List BS) (s:BS) (hl:bs.length<2000000) (hB:∀ b∈bs,b.bl.length=8) (hs:s.bl.length=8) :
  ACall Go.Proofs.Tryz.prog 67 [.agg (BS.row s),.ptr 1000 0 0] [(1000,⟨1,[[.lst 11 (bs.map BS.row)]]⟩)] (fun r L'=>r=.bool (!leadsB bs bs.length s)∧L'=[(1000,⟨1,[[.lst 11 (bs.map BS.row)]]⟩)]):=by
 refine acx func67 [] ntmps67 rfl rfl rfl ?_
 simp[qaq _ hs,row_take _ hs]
 refine qcb (by kernel_rfl) (leadsC bs s hl hB hs) (by simp[bk]) (by simp) ?_
 simp
def ibookOkB (bs:List BS):Bool:=decide (bs.length≤6) && okAll bs && !(bs.any fun s=>!leadsB bs bs.length s)
theorem chunks1 (l:List (List UInt8)) (h:l.length=8):chunks 1 8 (l.map AV.str)=l.map qav:=by
 match l,h with
 | [a,b,c,d,e,f,g,i],_=>rfl
theorem any_short (l:List (List UInt8)):(l.any fun t=>!short t)=!l.all short:=by
 rw[List.not_all_eq_any_not]
theorem ibookOkC (bs:List BS) (hl:bs.length<2000000) (hB:∀ b∈bs,b.bl.length=8) (hs:∀ b∈bs,b.name.length<2000000):ACall Go.Proofs.Tryz.prog 36 [bk bs] [] (fun r L'=>r=.bool (ibookOkB bs)∧L'=[]):=by
 obtain⟨res,hres⟩:∃ res,ibookOkB bs=res:=⟨_,rfl⟩
 rw[hres]
 by_cases h0:bs.length≤6
 ·have h0':¬ (6:Int)<bs.length:=by omega
  have h0'':(bs.length:Int)≤6:=by omega
  refine acx func36 [(6,[zI 0,zJ 1 [4] [],zI 2,zI 3,zI 4,zI 5,zI 6,zI 7,zI 8,zJ 9 [1] [],zJ 10 [] [1],zJ 11 [] [1],zI 12,zI 13,zI 14,zJ 15 [] [1],zJ 16 [4] [1],zI 17,zI 18,zI 19,zI 20,zI 21,zJ 22 [4] [],zI 23,zI 24,zI 25,zJ 26 [4] [],zI 27,zI 28,zI 29,zI 30,zI 31,zI 32,zI 33,zI 34])] ntmps36 rfl rfl rfl ?_
  simp[bk,h0',h0'']
  refine qbu (X:=Nat) [1,10,11,12] (fun i=>⟨mkT [(1,.ptr 1 0 0),(10,.lst 11 (bs.map BS.row)),(11,.int .i64 bs.length),(12,.int .i64 i)],hpOf [(1,⟨1,[[.lst 11 (bs.map BS.row)]]⟩)],Us.of [1]⟩) (fun i=>bs.length-i)
   (fun i=>i≤bs.length∧∀ j,j<i→∀ s,bs[j]?=some s→okAt bs j s=true) 0 ⟨by simp,[(1,1)],by simp[qab],by simp[canon,obOf]⟩ ?_
  rintro i ⟨hi,ha⟩
  by_cases h1:i<bs.length
  ·obtain⟨s,e0⟩:∃ s,bs[i]=s:=⟨_,rfl⟩
   have e1:bs[i]?=some s:=by rw[← e0];exact List.getElem?_eq_getElem h1
   have hsm:s∈bs:=List.mem_of_getElem? e1
   have h8:=hB s hsm
   have e2:IntKind.i64.wrap ((i:Int)+1)=((i+1:Nat):Int):=by rw[qao _ (by omega)];omega
   have hbad:okAt bs i s=false→res=false:=fun h=>by rw[← hres,ibookOkB,okAll_bad bs i s e1 h];simp
   have next:okAt bs i s=true→∀ j,j<i+1→∀ s,bs[j]?=some s→okAt bs j s=true:=fun hok j hj y hy=>by
    by_cases hji:j=i
    ·subst hji;rw[e1]at hy;injection hy with hy;subst hy;exact hok
    ·exact ha j (by omega) y hy
   have hfin:nameB s.name=true→okPrev bs i s=true→1≤s.kind→s.kind≤2→okAt bs i s=s.bl.all short:=fun h1 h2 h3 h4=>by
    simp only[okAt,h1,h2,h3,h4,Bool.true_and,decide_true];rfl
   simp[h1,e0,e1,qaq _ h8,row_take _ h8]
   refine⟨row_all s,qcb (by kernel_rfl) (ibookName s.name (by have:=hs s hsm;omega)) (by simp) (by simp) ?_⟩
   cases hn:nameB s.name with
   | false=>simp[hbad (by simp[okAt,hn])]
   | true =>
    have hn':=hn
    have hpv:okPrev bs i s=false→res=false:=fun h=>hbad (by simp[okAt,h])
    have hk:¬ (s.kind=1∨s.kind=2)→res=false:=fun h=>hbad (by
     by_cases hk1:1≤s.kind
     ·have hk2:¬ s.kind≤2:=by omega
      simp[okAt,hk2]
     ·simp[okAt,hk1])
    by_cases hi0:i=0
    ·subst hi0
     simp
     refine⟨fun g1=>⟨fun g2=>?_,fun g2=>hk (by omega)⟩,fun g1=>?_⟩
     all_goals
      refine callA_vv (by kernel_rfl) (contSC (fun t=>!short t) 65 s.bl (by omega) (by kernel_rfl) (fun t _=>longC t)) (by simp[chunks1 _ h8,qaq _ h8];intro _ _;rfl) (by simp) (by simp) ?_
      rw[any_short]
      cases hb:s.bl.all short with
      | false=>simp[hbad ((hfin hn' (by simp[okPrev]) (by omega) (by omega)).trans hb)]
      | true =>
       simp[show IntKind.i64.wrap 1=1 from rfl]
       exact qbs (0+1) (by omega) ⟨by omega,next ((hfin hn' (by simp[okPrev]) (by omega) (by omega)).trans hb)⟩ [(1,1)] (by simp[qab]) (by simp[canon,obOf])
    ·obtain⟨m,hm⟩:∃ m,i=m+1:=⟨i-1,by omega⟩
     subst hm
     obtain⟨q,q0⟩:∃ q,bs[m]=q:=⟨_,rfl⟩
     have q1:bs[m]?=some q:=by rw[← q0];exact List.getElem?_eq_getElem (by omega)
     have q2:IntKind.i64.wrap (m:Int)=(m:Int):=by rw[qao _ (by omega)]
     have q3:m<bs.length:=by omega
     have q4:=qaq q (hB q (List.mem_of_getElem? q1))
     have hbl:(Op.bytesLess s.name q.name || s.name == q.name)=!Op.bytesLess q.name s.name:=bytesLess_leq _ _
     have hbl2:(Op.bytesLess s.name q.name || q.name == s.name)=!Op.bytesLess q.name s.name:=by rw[← hbl,BEq.comm]
     cases hq:Op.bytesLess q.name s.name with
     | false =>
      have hrf:res=false:=hpv (by simp[okPrev,q1,hq])
      simp[q0,q1,q2,q3,hrf,q4,hbl,hbl2,hq]
     | true =>
      have hop:okPrev bs (m+1) s=true:=by simp[okPrev,q1,hq]
      have e2':IntKind.i64.wrap ((m:Int)+1+1)=(m:Int)+1+1:=qao _ (by omega)
      simp[q0,q1,q2,q3,q4,hbl,hbl2,hq]
      refine⟨fun g1=>⟨fun g2=>?_,fun g2=>hk (by omega)⟩,fun g1=>?_⟩
      all_goals
       refine callA_vv (by kernel_rfl) (contSC (fun t=>!short t) 65 s.bl (by omega) (by kernel_rfl) (fun t _=>longC t)) (by simp[chunks1 _ h8,qaq _ h8];intro _ _;rfl) (by simp) (by simp) ?_
       rw[any_short]
       cases hb:s.bl.all short with
       | false=>simp[hbad ((hfin hn' hop (by omega) (by omega)).trans hb)]
       | true =>
        simp[e2']
        exact qbs (m+1+1) (by omega) ⟨by omega,next ((hfin hn' hop (by omega) (by omega)).trans hb)⟩ [(1,1)] (by simp[qab]) (by simp[canon,obOf])
  ·have hie:i=bs.length:=by omega
   subst hie
   have hok:okAll bs=true:=by
    unfold okAll
    rw[List.all_eq_true]
    intro j hj
    have hj':j<bs.length:=by simpa using hj
    have hx:bs[j]?=some bs[j]:=List.getElem?_eq_getElem hj'
    rw[hx];exact ha j hj' _ hx
   simp
   refine qac [(1000,.whole 1)] (by kernel_rfl) (contC (fun s=>!leadsB bs bs.length s) 67 ⟨1,[[.lst 11 (bs.map BS.row)]]⟩ bs hl hB (by simp) (by simp) (by kernel_rfl) (fun s hsm=>okF2C bs s hl hB (hB s hsm))) (by simp) (by simp) (by simp;exact qad rfl (by simp)) (by simp) (by simp) ?_
   rintro r L' ⟨rfl,rfl⟩
   refine⟨[],⟨by simp,by simp,by simp,by simp,by simp⟩,?_⟩
   have:res=!(bs.any fun s=>!leadsB bs bs.length s):=by
    rw[← hres];simp only[ibookOkB,hok,h0,decide_true,Bool.true_and]
   simp[this]
 ·have:res=false:=by rw[← hres];simp[ibookOkB,h0]
  have h0':(6:Int)<bs.length:=by omega
  refine acx func36 [(6,[zI 0,zJ 1 [4] [],zI 2,zI 3,zI 4,zI 5,zI 6,zI 7,zI 8,zJ 9 [1] [],zJ 10 [] [1],zJ 11 [] [1],zI 12,zI 13,zI 14,zJ 15 [] [1],zJ 16 [4] [1],zI 17,zI 18,zI 19,zI 20,zI 21,zJ 22 [4] [],zI 23,zI 24,zI 25,zJ 26 [4] [],zI 27,zI 28,zI 29,zI 30,zI 31,zI 32,zI 33,zI 34])] ntmps36 rfl rfl rfl ?_
  simp[bk,h0',this]
end Go.Av.F

end
section
namespace Go.Av.F
open Go Go.Av
open Go.Proofs Go.Proofs.Tryz
attribute [-simp] getU hdS canon qab i64w
attribute [local simp] tt3 tt4 tt9 tt5 tt22 tt67 tt65 tt90 tt88 tt75 tt52
end Go.Av.F

end
section
namespace Go.Av.F
open Go Go.Av
open Go.Proofs Go.Proofs.Tryz
attribute [-simp] getU hdS canon qab i64w
attribute [local simp] tt3 tt4 tt9 tt5 tt22 tt67 tt65 tt90 tt88 tt75 tt52
end Go.Av.F

end
section
namespace Go.Av.F
open Go Go.Av
open Go.Proofs Go.Proofs.Tryz
attribute [-simp] getU hdS canon qab i64w
attribute [local simp] tt3 tt4 tt9 tt5 tt22 tt67 tt65 tt90 tt88 tt75 tt52
end Go.Av.F

end
section
namespace Go.Av.F
open Go Go.Av
open Go.Proofs Go.Proofs.Tryz
attribute [-simp] getU hdS canon qab i64w
attribute [local simp] tt3 tt4 tt9 tt5 tt22 tt67 tt65 tt90 tt88 tt75 tt52
def opOb (o:BO):Ob:=⟨5,[BO.row o]⟩
end Go.Av.F

end
section
namespace Go.Av.F
open Go Go.Av
open Go.Proofs Go.Proofs.Tryz
attribute [-simp] getU hdS canon qab i64w
attribute [local simp] tt3 tt4 tt9 tt5 tt22 tt67 tt65 tt90 tt88 tt75 tt52
theorem newB_mem {bs:List BS} {s b:BS} (h:b∈(newB bs s).1):b∈bs∨b=s:=by
 unfold newB at h
 split at h
 ·exact .inl h
 ·split at h
  ·exact .inl h
  ·split at h
   ·exact .inl h
   ·simp only[List.mem_append,List.mem_cons]at h
    rcases h with h | h | h
    ·exact .inl (List.mem_of_mem_take h)
    ·exact .inr h
    ·exact .inl (List.mem_of_mem_drop h)
theorem newB_len (bs:List BS) (s:BS):(newB bs s).1.length≤bs.length+1:=by
 unfold newB
 split
 ·simp
 ·split
  ·simp
  ·split
   ·simp
   ·simp;omega
theorem mem_set {bs:List BS} {k:Nat} {t b:BS} (h:b∈bs.set k t):b∈bs∨b=t:=by
 rcases List.mem_or_eq_of_mem_set h with h | h
 ·exact .inl h
 ·exact .inr h
theorem doB_len (bs:List BS) (o:BO):(doB bs o).1.length≤bs.length+1:=by
 unfold doB
 split
 ·exact newB_len _ _
 ·split
  ·simp
  ·split
   ·simp
   ·split
    ·split
     ·unfold killB
      split
      ·split
       ·simp
       ·simp;omega
      ·simp
     ·split
      ·unfold putB
       split
       ·split
        ·simp
        ·split <;> simp
       ·simp
      ·split
       ·unfold backB
        split
        ·split
         ·simp
         ·split
          ·split <;> simp
          ·simp
        ·simp
       ·split
        ·split
         ·simp
         ·exact newB_len _ _
        ·split
         ·simp
         ·exact newB_len _ _
    ·simp
theorem okAll_at {bs:List BS} (h:okAll bs=true) {i:Nat} {s:BS} (hs:bs[i]?=some s):okAt bs i s=true:=by
 unfold okAll at h
 rw[List.all_eq_true]at h
 have:=h i (by have:=(List.getElem?_eq_some_iff.1 hs).1;simpa using this)
 rw[hs]at this;exact this
theorem okAll_srt {bs:List BS} (h:okAll bs=true):Srt bs:=by
 have step:∀ i a b,bs[i]?=some a→bs[i+1]?=some b→Op.bytesLess a.name b.name=true:=fun i a b ha hb=>by
  have:=okAll_at h hb
  simp only[okAt,Bool.and_eq_true,okPrev]at this
  have h2:=this.1.1.1.2
  simp only[Nat.add_sub_cancel,ha]at h2
  simpa using h2
 intro i j a b hij ha hb
 obtain⟨d,rfl⟩:∃ d,j=i+1+d:=⟨j-i-1,by omega⟩
 clear hij
 induction d generalizing b with
 | zero=>exact step i a b ha hb
 | succ d ih =>
  have hlt:=(List.getElem?_eq_some_iff.1 hb).1
  have hc:bs[i+1+d]?=some (bs[i+1+d]'(by omega)):=List.getElem?_eq_getElem _
  exact bl_trans (ih _ hc) (step _ _ _ hc (by rw[← hb];rfl))
theorem ibookOkB_srt {bs:List BS} (h:ibookOkB bs=true):Srt bs:=by
 simp only[ibookOkB,Bool.and_eq_true]at h;exact okAll_srt h.1.2
theorem noL_strs:∀ l:List (List UInt8),noL (l.map AV.str)=true
 | []=>rfl
 | a::r=>by simp[noL_strs r]
end Go.Av.F

end
section
namespace Go.Av.F
open Go Go.Av
open Go.Proofs Go.Proofs.Tryz
attribute [-simp] getU hdS canon qab i64w
attribute [local simp] tt3 tt4 tt9 tt5 tt22 tt67 tt65 tt90 tt88 tt75 tt52
end Go.Av.F

end
section
namespace Go.Av.F
open Go Go.Av
theorem bl_irrefl (a:List UInt8):Op.bytesLess a a=false:=by
 rw[Go.Proofs.bytesLess_eq];simp[Std.lt_irrefl]
theorem srt_inj {bs:List BS} (hS:Srt bs) {i j:Nat} {a b:BS} (ha:bs[i]?=some a) (hb:bs[j]?=some b) (h:a.name=b.name):i=j:=by
 rcases Nat.lt_trichotomy i j with hij | hij | hij
 ·have:=hS i j a b hij ha hb;rw[h,bl_irrefl]at this;cases this
 ·exact hij
 ·have:=hS j i b a hij hb ha;rw[h,bl_irrefl]at this;cases this
theorem atP_of {bs:List BS} (hS:Srt bs) {j:Nat} {t:BS} (ht:bs[j]?=some t):atP bs t.name=j∧atB bs t.name=true:=by
 have h:=(takeWhile_step (fun b:BS=>Op.bytesLess b.name t.name) bs j t (fun x hx y hy=>hS x j y t hx hy ht) ht).2 (bl_irrefl _)
 have h':atP bs t.name=j:=h
 exact⟨h',by unfold atB;rw[h',ht];simp⟩
theorem find_at {bs:List BS} (hS:Srt bs) (x:List UInt8):bs.findIdx? (fun b=>b.name == x)=if atB bs x=true then some (atP bs x) else none:=by
 split
 ·rename_i h
  obtain⟨u,hu,hun⟩:=atB_some h
  refine idx_step (fun b=>b.name == x) bs (atP bs x) u (fun j hj y hy=>?_) hu (by simp[hun])
  rw[beq_eq_false_iff_ne]
  intro e
  have:=srt_inj hS hy hu (e.trans hun.symm)
  omega
 ·rename_i h
  rw[List.findIdx?_eq_none_iff]
  intro b hb
  obtain⟨j,hj,e⟩:=List.mem_iff_getElem.1 hb
  rw[beq_eq_false_iff_ne]
  intro e2
  have hb2:bs[j]?=some b:=by rw[← e];exact List.getElem?_eq_getElem hj
  have:=(atP_of hS hb2).2
  rw[e2]at this;exact h this
theorem leads_roots {bs:List BS} (hS:Srt bs):∀ (m:Nat) (s:BS),leadsB bs m s=roots bs m s
 | 0,s=>rfl
 | m+1,s=>by
  simp only[leadsB,roots,find_at hS]
  split
  ·rfl
  ·cases h:atB bs s.frm with
   | false =>
    simp
    split <;> rfl
   | true =>
    simp only[if_true]
    cases hu:bs[atP bs s.frm]? with
    | none=>rfl
    | some t =>
     simp only
     by_cases hk:t.kind=s.kind
     ·simp[hk]
     ·simp[hk,leads_roots hS m t]
theorem roots_mono {bs:List BS}:∀ (m:Nat) (s:BS),roots bs m s=true→roots bs (m+1) s=true
 | 0,s,h=>by simp[roots]at h
 | m+1,s,h=>by
  simp only[roots]at h
  rw[roots]
  split at h
  ·rename_i h1;rw[if_pos h1];exact h
  ·rename_i h1
   rw[if_neg h1]
   split at h
   ·rename_i t ht
    split at h
    ·rename_i h2;rw[if_pos h2];exact roots_mono m t h
    ·cases h
   ·cases h
theorem roots_step {bs:List BS} {m:Nat} (h:∀ s∈bs,roots bs m s=roots bs (m+1) s):∀ s,roots bs (m+1) s=roots bs (m+2) s:=fun s=>by
 rw[roots,roots]
 split
 ·rfl
 ·split
  ·rename_i t ht
   split
   ·exact h t (List.mem_of_getElem? ht)
   ·rfl
  ·rfl
theorem countP_strict {α:Type} {p q:α→Bool}:∀ {l:List α},(∀ x∈l,p x=true→q x=true)→(∃ x∈l,q x=true∧p x=false)→l.countP p<l.countP q
 | [],_,h=>by obtain⟨x,hx,_⟩:=h;simp at hx
 | a::r,h,hex=>by
  have hle:r.countP p≤r.countP q:=List.countP_mono_left fun x hx=>h x (List.mem_cons_of_mem _ hx)
  obtain⟨x,hx,h1,h2⟩:=hex
  simp only[List.mem_cons]at hx
  rcases hx with rfl | hx
  ·rw[List.countP_cons,List.countP_cons,if_pos h1,if_neg (by simp[h2])];omega
  ·have:=countP_strict (l:=r) (fun x hx=>h x (List.mem_cons_of_mem _ hx)) ⟨x,hx,h1,h2⟩
   rw[List.countP_cons,List.countP_cons]
   cases ha:p a with
   | true=>rw[if_pos rfl,if_pos (h a (by simp) ha)];omega
   | false =>
    simp only[Bool.false_eq_true,if_false]
    split <;> omega
theorem roots_grow (bs:List BS):∀ m:Nat,(∀ s∈bs,roots bs m s=roots bs (m+1) s)∨m+1≤bs.countP (roots bs (m+1))
 | 0=>by
  rcases Nat.eq_zero_or_pos (bs.countP (roots bs 1))with h | h
  ·left
   intro s hs
   rw[List.countP_eq_zero]at h
   have:=h s hs
   simp only[roots,Bool.not_eq_true]at this ⊢
   exact this.symm
  ·right;exact h
 | m+1=>by
  rcases roots_grow bs m with h | h
  ·exact .inl fun s _=>roots_step h s
  ·by_cases hs:∀ s∈bs,roots bs (m+1) s=roots bs (m+2) s
   ·exact .inl hs
   ·right
    have:∃ s∈bs,roots bs (m+2) s=true∧roots bs (m+1) s=false:=by
     simp only[Classical.not_forall]at hs
     obtain⟨s,hm,hne⟩:=hs
     refine⟨s,hm,?_⟩
     cases h1:roots bs (m+1) s with
     | true=>exact absurd ((h1.trans (roots_mono _ _ h1).symm)) hne
     | false =>
      cases h2:roots bs (m+2) s with
      | true=>exact⟨rfl,rfl⟩
      | false=>exact absurd (h1.trans h2.symm) hne
    have:bs.countP (roots bs (m+1))<bs.countP (roots bs (m+1+1)):=countP_strict (fun x _ hx=>roots_mono (m+1) x hx) this
    omega
theorem roots_len (bs:List BS):∀ s∈bs,roots bs bs.length s=roots bs (bs.length+1) s:=by
 rcases roots_grow bs bs.length with h | h
 ·exact h
 ·have:=List.countP_le_length (p:=roots bs (bs.length+1)) (l:=bs);omega
theorem ok_eq (bs:List BS):ibookOkB bs=qbe bs:=by
 unfold ibookOkB qbe
 cases h:okAll bs with
 | false=>simp
 | true =>
  have hS:=okAll_srt h
  congr 1
  rw[← List.not_all_eq_any_not,Bool.not_not]
  rw[Bool.eq_iff_iff,List.all_eq_true,List.all_eq_true]
  constructor
  ·intro h s hs;rw[← roots_len bs s hs,← leads_roots hS];exact h s hs
  ·intro h s hs;rw[leads_roots hS,roots_len bs s hs];exact h s hs
end Go.Av.F

end
section
namespace Go.Av.F
open Go Go.Av
inductive Rt (bs:List BS):BS→Prop
 | root (s:BS):s.frm=[]→s.kind=1→Rt bs s
 | step (s t:BS):s.frm≠[]→t∈bs→t.name=s.frm→t.kind≠s.kind→Rt bs t→Rt bs s
def Pw (bs:List BS):Prop:=bs.Pairwise fun a b=>Op.bytesLess a.name b.name=true
def Fine (s:BS):Prop:=nameB s.name=true∧1≤s.kind∧s.kind≤2∧∀ t∈s.bl,t.length≤24
def Ok (bs:List BS):Prop:=bs.length≤6∧Pw bs∧∀ s∈bs,Fine s∧Rt bs s
theorem pw_srt {bs:List BS} (h:Pw bs):Srt bs:=fun i j a b hij ha hb=>by
 obtain⟨h1,rfl⟩:=List.getElem?_eq_some_iff.1 ha
 obtain⟨h2,rfl⟩:=List.getElem?_eq_some_iff.1 hb
 exact(List.pairwise_iff_getElem.1 h) i j h1 h2 hij
theorem srt_pw {bs:List BS} (h:Srt bs):Pw bs:=List.pairwise_iff_getElem.2 fun i j h1 h2 hij=>h i j _ _ hij (List.getElem?_eq_getElem h1) (List.getElem?_eq_getElem h2)
theorem at_mem {bs:List BS} (hS:Srt bs) {t:BS} (h:t∈bs):bs[atP bs t.name]?=some t∧atB bs t.name=true:=by
 obtain⟨i,hi,rfl⟩:=List.mem_iff_getElem.1 h
 have:=atP_of hS (List.getElem?_eq_getElem hi)
 exact⟨by rw[this.1];exact List.getElem?_eq_getElem hi,this.2⟩
theorem rt_roots {bs:List BS} (hS:Srt bs) {s:BS} (h:Rt bs s):∃ n,roots bs n s=true:=by
 induction h with
 | root s h1 h2=>exact⟨1,by simp[roots,h1,h2]⟩
 | step s t h1 h2 h3 h4 _ ih =>
  obtain⟨n,hn⟩:=ih
  obtain⟨e1,e2⟩:=at_mem hS h2
  rw[h3]at e1 e2
  exact⟨n+1,by simp[roots,h1,e1,e2,h4,hn]⟩
theorem roots_rt {bs:List BS}:∀ (n:Nat) (s:BS),roots bs n s=true→Rt bs s
 | 0,s,h=>by simp[roots]at h
 | n+1,s,h=>by
  simp only[roots]at h
  split at h
  ·rename_i h1;exact .root s h1 (by simpa using h)
  ·rename_i h1
   split at h
   ·rename_i t ht
    split at h
    ·rename_i h2
     obtain⟨u,hu,hun⟩:=atB_some h2.1
     rw[ht]at hu;injection hu with hu;subst hu
     exact .step s t h1 (List.mem_of_getElem? ht) hun h2.2 (roots_rt n t h)
    ·cases h
   ·cases h
theorem roots_add (bs:List BS):∀ (k:Nat) (s:BS),s∈bs→roots bs (bs.length+k) s=roots bs bs.length s
 | 0,s,hs=>rfl
 | k+1,s,hs=>by
  have h:∀ (k:Nat),∀ s∈bs,roots bs (bs.length+k) s=roots bs (bs.length+k+1) s:=fun k=>by
   induction k with
   | zero=>exact roots_len bs
   | succ k ih=>exact fun s _=>roots_step ih s
  have:=h k s hs
  rw[show bs.length+(k+1)=bs.length+k+1 by omega,← this]
  exact roots_add bs k s hs
theorem roots_any {bs:List BS} {s:BS} (hs:s∈bs) {n:Nat} (h:roots bs n s=true):roots bs (bs.length+1) s=true:=by
 have:∀ k,roots bs (n+k) s=true:=fun k=>by
  induction k with
  | zero=>exact h
  | succ k ih=>exact roots_mono _ _ ih
 have h1:=this bs.length
 rw[Nat.add_comm,roots_add bs n s hs]at h1
 exact roots_mono _ _ h1
theorem okB_iff {bs:List BS}:qbe bs=true↔Ok bs:=by
 constructor
 ·intro h
  simp only[qbe,Bool.and_eq_true,decide_eq_true_eq,List.all_eq_true]at h
  refine⟨h.1.1,srt_pw (okAll_srt h.1.2),fun s hs=>⟨?_,roots_rt _ _ (h.2 s hs)⟩⟩
  obtain⟨i,hi,e⟩:=List.mem_iff_getElem.1 hs
  have:=okAll_at h.1.2 (i:=i) (s:=s) (by rw[← e];exact List.getElem?_eq_getElem hi)
  simp only[okAt,Bool.and_eq_true,decide_eq_true_eq,List.all_eq_true]at this
  exact⟨this.1.1.1.1,this.1.1.2,this.1.2,this.2⟩
 ·rintro⟨h1,h2,h3⟩
  have hS:=pw_srt h2
  simp only[qbe,Bool.and_eq_true,decide_eq_true_eq,List.all_eq_true]
  refine⟨⟨h1,?_⟩,fun s hs=>?_⟩
  ·unfold okAll
   rw[List.all_eq_true]
   intro i hi
   have hil:i<bs.length:=by simpa using hi
   rw[List.getElem?_eq_getElem hil]
   obtain⟨g1,g2,g3,g4⟩:=(h3 _ (List.getElem_mem hil)).1
   simp only[okAt,Bool.and_eq_true,decide_eq_true_eq,List.all_eq_true]
   refine⟨⟨⟨⟨g1,?_⟩,g2⟩,g3⟩,g4⟩
   unfold okPrev
   cases i with
   | zero=>simp
   | succ i =>
    have:i<bs.length:=by omega
    simp only[Nat.add_sub_cancel,List.getElem?_eq_getElem this]
    simp[hS i (i+1) _ _ (by omega) (List.getElem?_eq_getElem this) (List.getElem?_eq_getElem hil)]
  ·obtain⟨n,hn⟩:=rt_roots hS (h3 s hs).2
   exact roots_any hs hn
theorem Rt.map {bs bs':List BS} (hb:∀ u∈bs,∃ u'∈bs',u'.name=u.name∧u'.kind=u.kind∧u'.frm=u.frm) {s:BS} (h:Rt bs s):∀ s':BS,s'.frm=s.frm→s'.kind=s.kind→Rt bs' s':=by
 induction h with
 | root s h1 h2=>exact fun s' e1 e2=>.root s' (e1.trans h1) (e2.trans h2)
 | step s t h1 h2 h3 h4 _ ih =>
  intro s' e1 e2
  obtain⟨u,hu,g1,g2,g3⟩:=hb t h2
  exact .step s' u (by rw[e1];exact h1) hu (by rw[e1,g1];exact h3) (by rw[e2,g2];exact h4) (ih u g3 g2)
end Go.Av.F

end
section
namespace Go.Av.F
open Go Go.Av
open Go.Proofs Go.Proofs.Tryz
attribute [-simp] getU hdS canon qab i64w
structure PT where
 pa:Int
 ps:Int
 pb:Int
deriving DecidableEq,Inhabited
def PT.row (p:PT):List AV:=[.int .i64 p.pa,.int .i64 p.ps,.int .i64 p.pb]
structure CS where
 name:List UInt8
 kind:Int
 frm:List UInt8
 map:List PT
 home:PT
 dirty:Bool
deriving DecidableEq,Inhabited
def CS.row (s:CS):List AV:=.str s.name::.int .i64 s.kind::.str s.frm::(s.map.flatMap PT.row++(s.home.row++[.bool s.dirty]))
structure DE where
 es:Int
 ea:Int
 ec:Int
deriving DecidableEq,Inhabited
def DE.row (e:DE):List AV:=[.int .i64 e.es,.int .i64 e.ea,.int .i64 e.ec]
def qaw (n:Int):List AV:=[.int .i64 n]
structure CO where
 txg:Int
 sets:List CS
 ddt:List DE
 parts:List PT
 dirty:Bool
 safe:List Int
 logn:Int
deriving DecidableEq,Inhabited
def CO.row (c:CO):List AV:=[.int .i64 c.txg,.lst 31 (c.sets.map CS.row),.lst 3 (c.ddt.map DE.row),.lst 3 (c.parts.map PT.row),.bool c.dirty,.lst 1 (c.safe.map qaw),.int .i64 c.logn]
open Go.Proofs
end Go.Av.F

end
section
namespace Go.Av.F
open Go Go.Av
open Go.Proofs Go.Proofs.Tryz
attribute [-simp] getU hdS canon qab i64w
attribute [local simp] tt3 tt4 tt9 tt26
theorem flat3:∀ (l:List PT),(l.flatMap PT.row).length=3 * l.length
 | []=>rfl
 | a::r=>by simp only[List.flatMap_cons,List.length_append,flat3 r,List.length_cons];simp only[PT.row,List.length_cons,List.length_nil];omega
theorem qay (s:CS) (h:s.map.length=8):s.row.length=31:=by
 simp only[CS.row,List.length_cons,List.length_append,flat3,h,PT.row,List.length_nil]
theorem cs_take (s:CS) (h:s.map.length=8):s.row.take 31=s.row:=List.take_of_length_le (by rw[qay s h];omega)
theorem oneA_cs (s:CS):∀ x∈s.row,oneA x=true:=fun y hy=>by
 simp only[CS.row,List.mem_cons,List.mem_append,List.mem_flatMap,PT.row,List.not_mem_nil,or_false]at hy
 rcases hy with rfl | rfl | rfl | ⟨p,_,rfl | rfl | rfl⟩ | (rfl | rfl | rfl) | rfl <;> rfl
theorem clL_app:∀ {a b:List AV},clL a=true→clL b=true→clL (a++b)=true
 | [],_,_,h=>h
 | x::a,b,h1,h2=>by
  simp only[clL,List.cons_append,Bool.and_eq_true]at h1 ⊢
  exact⟨h1.1,clL_app h1.2 h2⟩
theorem clL_pts:∀ l:List PT,clL (l.flatMap PT.row)=true
 | []=>rfl
 | a::r=>by
  rw[List.flatMap_cons]
  exact clL_app (by simp[PT.row,clL,clA]) (clL_pts r)
theorem cs_cl (s:CS):clL s.row=true:=by
 simp only[CS.row,clL,clA,Bool.true_and]
 exact clL_app (clL_pts _) (by simp[PT.row,clL,clA])
end Go.Av.F

end
section
namespace Go.Av.F
open Go Go.Av
open Go.Proofs Go.Proofs.Tryz
attribute [-simp] getU hdS canon qab i64w
attribute [local simp] tt3 tt4 tt9 tt26 tt25 tt40 tt24 tt48
def fillB (l:List (List AV)) (z:List AV) (i:Nat):List (List AV):=l.take i++List.replicate (l.length-i) z
end Go.Av.F

end
section
namespace Go.Av.F
open Go Go.Av
open Go.Proofs Go.Proofs.Tryz
attribute [-simp] getU hdS canon qab i64w
attribute [local simp] tt43 tt23 tt28
attribute [local simp] tt3 tt4 tt9 tt26 tt25 tt40 tt24 tt48 tt41
theorem frzP {f:Nat} {args:List AV} {sz:Nat} {rows:List (List AV)} {n:Nat} (hn:n=rows.length) (hcl:clR rows=true) (h:ACall Go.Proofs.Tryz.prog f args [] (fun r L'=>r=.sl 7 0 n∧L'=[(7,⟨sz,rows⟩)])):ACall Go.Proofs.Tryz.prog f args [] (fun r L'=>r=.lst sz rows∧L'=[]):=by
 refine h.frz ?_
 rintro r L' ⟨rfl,rfl⟩
 refine⟨7,⟨sz,rows⟩,rfl,hcl,?_,rfl⟩
 subst hn
 simp
end Go.Av.F

end
section
namespace Go.Av.F
open Go Go.Av
open Go.Proofs Go.Proofs.Tryz
attribute [-simp] getU hdS canon qab i64w
attribute [local simp] tt43 tt23 tt28
attribute [local simp] tt3 tt4 tt9 tt26 tt25 tt40 tt24 tt48 tt41
end Go.Av.F

end
section
namespace Go.Av.F
open Go Go.Av
open Go.Proofs Go.Proofs.Tryz
attribute [-simp] getU hdS canon qab i64w
attribute [local simp] tt3 tt4 tt9 tt5 tt22 tt67 tt65 tt90 tt88 tt75 tt52 tt26
theorem manyL (s:List UInt8) (n:Int) (hn:0≤n∧n≤100) (hs:s.length≤100):ACall Go.Proofs.Tryz.prog 53 [.str s,.int .i64 n] [] (fun r L'=>∃ t,t.length≤10000∧r=.str t∧L'=[]):=by
 refine acx func53 [] ntmps53 rfl rfl rfl ?_
 simp
 have w1:((n.toNat:Nat):Int)=n:=by omega
 have w2:max n 0=n:=by omega
 refine qbu (X:=List UInt8×List UInt8×Nat) [0,1,5] (fun x=>⟨mkT [(0,.str x.1),(1,.int .i64 x.2.2),(5,.str x.2.1)],hpOf [],Us.of []⟩) (fun x=>x.2.2) (fun x=>x.2.1.length+x.1.length * x.2.2≤10000∧x.1.length≤20000∧x.2.2≤100) (s,[],n.toNat)
  ⟨⟨?_,by show s.length≤20000;omega,by show n.toNat≤100;omega⟩,[],by simp[qab],by simp[canon,w1,w2]⟩ ?_
 ·simp only[List.length_nil,Nat.zero_add]
  exact Nat.mul_le_mul hs (by omega:n.toNat≤100)
 rintro⟨s,out,m⟩ ⟨h1,h2,hm100⟩
 simp only at h1 h2 hm100
 by_cases h0:m=0
 ·subst h0
  simp at h1
  simp
  exact⟨[],by simp,out,h1,rfl,rfl⟩
 ·have hm:(0:Int)<m:=by omega
  have hm':0<m:=by omega
  have e1:IntKind.i64.wrap ((m:Int).tmod 2)=((m % 2:Nat):Int):=by
   rw[Int.tmod_eq_emod_of_nonneg (by omega),qao _ (by omega)];omega
  have e2:IntKind.i64.wrap ((m:Int).tdiv 2)=((m / 2:Nat):Int):=by
   rw[Int.tdiv_eq_ediv_of_nonneg (by omega),qao _ (by omega)];omega
  have e3:(m:Int).tmod 2=((m % 2:Nat):Int):=by rw[Int.tmod_eq_emod_of_nonneg (by omega)];omega
  have e4:(m:Int).tdiv 2=((m / 2:Nat):Int):=by rw[Int.tdiv_eq_ediv_of_nonneg (by omega)];omega
  have e5:IntKind.i64.wrap ((m:Int) / 2)=(m:Int) / 2:=qao _ (by omega)
  have hsl:s.length≤10000:=by
   have h3:s.length * 1≤s.length * m:=Nat.mul_le_mul_left _ hm'
   rw[Nat.mul_one]at h3
   exact Nat.le_trans h3 (Nat.le_trans (Nat.le_add_left _ _) h1)
  by_cases hodd:m % 2=1
  ·have hmm:m=2 * (m / 2)+1:=by omega
   have hk:(out++s).length+(s++s).length * (m / 2)≤10000:=by
    have:s.length * m=s.length * (2 * (m / 2))+s.length:=by conv=>lhs;rw[hmm,Nat.mul_add,Nat.mul_one]
    simp only[List.length_append]
    rw[← Nat.two_mul,Nat.mul_assoc,Nat.mul_left_comm];omega
   have hol:out.length≤10000:=Nat.le_trans (Nat.le_add_right _ _) h1
   simp[hm,hm',e1,e2,e3,e4,e5,hodd]
   refine⟨by omega,by omega,qbs (s++s,out++s,m / 2) (by simp only;omega) ⟨hk,by simp;omega,by show m / 2≤100;omega⟩ [] (by simp[qab]) (by simp[canon,e5])⟩
  ·have hmm:m=2 * (m / 2):=by omega
   have hk:out.length+(s++s).length * (m / 2)≤10000:=by
    have:s.length * m=s.length * (2 * (m / 2)):=by conv=>lhs;rw[hmm]
    simp only[List.length_append]
    rw[← Nat.two_mul,Nat.mul_assoc,Nat.mul_left_comm];omega
   have hodd':¬ (m:Int) % 2=1:=by omega
   simp[hm,hm',e1,e2,e3,e4,e5,hodd,hodd']
   refine⟨by omega,qbs (s++s,out,m / 2) (by simp only;omega) ⟨hk,by simp;omega,by show m / 2≤100;omega⟩ [] (by simp[qab]) (by simp[canon,e5])⟩
structure OpG (o:BO):Prop where
 a:o.a.length≤24
 b:o.b.length≤24
 t:o.text.length≤10000
def opR (bs:List UInt8) (p:Int) (r:AV) (L':List (Nat×Ob)):Prop:=∃ (o:BO) (q:Int),OpG o∧p≤q∧q≤p+20∧r=.agg (BO.row o)∧L'=[(1000,rdOb bs q)]
def oSt (bs:List UInt8) (rows:List (List AV)) (x:Int×BO):S :=
 ⟨mkT [(0,.ptr 1000 0 0),(3,.ptr 3 0 0),(4,.ptr 4 0 0),(5,.ptr 5 0 0)],hpOf [(1000,rdOb bs x.1),(3,⟨1,[[.lst 11 rows]]⟩),(4,opOb ⟨0,[],[],0,[]⟩),(5,opOb x.2)],Us.of [1000,1000,3,4,5]⟩
def oGd (p k:Int) (x:Int×BO):Prop:=p≤x.1∧x.1≤p+k∧OpG x.2
theorem callPick {bs:List UInt8} {p n:Int} (hp:0≤p∧p<1000000000) (hb:bs.length≤2000) {s:S} {dst:Option Nat} {K:S→Prop} (hr:s.h 1000=some (rdOb bs p))
  (hK:∀ k:Int,(1≤n→0≤k∧k<n)→(n<1→k=0)→K ⟨putA s.t dst (.int .i64 k),upd s.h 1000 (some (rdOb bs (p+1))),s.u⟩):callA Go.Proofs.Tryz.prog 10 [.ptr 1000 0 0,.int .i64 n] dst s K:=by
 refine qac [(1000,.whole 1000)] (by kernel_rfl) (pickC bs p n hp hb) (by simp) (by simp) (by simp[hr]) (by simp) (by simp[hr]) ?_
 rintro r L' ⟨k,rfl,h1,h2,rfl⟩
 refine⟨[],⟨by simp,by simp,by simp,by simp,by simp⟩,?_⟩
 have e:(qae s [(1000,.whole 1000)] [] dst (.int .i64 k) [(1000,rdOb bs (p+1))])=⟨putA s.t dst (.int .i64 k),upd s.h 1000 (some (rdOb bs (p+1))),s.u⟩:=by
  simp only[qae]
  congr 1
  ·funext i;simp;split <;> simp_all
  ·exact Us.app_nil _
 rw[e];exact hK k h1 h2
theorem callName {bs:List UInt8} {p:Int} (hp:0≤p∧p<1000000000) (hb:bs.length≤2000) {s:S} {dst:Option Nat} {K:S→Prop} (hr:s.h 1000=some (rdOb bs p))
  (hK:∀ k:List UInt8,k.length≤24→K ⟨putA s.t dst (.str k),upd s.h 1000 (some (rdOb bs (p+1))),s.u⟩):callA Go.Proofs.Tryz.prog 52 [.ptr 1000 0 0] dst s K:=by
 refine qac [(1000,.whole 1000)] (by kernel_rfl) (nameC bs p hp hb) (by simp) (by simp) (by simp[hr]) (by simp) (by simp[hr]) ?_
 rintro r L' ⟨k,hk,rfl,rfl⟩
 refine⟨[],⟨by simp,by simp,by simp,by simp,by simp⟩,?_⟩
 have e:(qae s [(1000,.whole 1000)] [] dst (.str k) [(1000,rdOb bs (p+1))])=⟨putA s.t dst (.str k),upd s.h 1000 (some (rdOb bs (p+1))),s.u⟩:=by
  simp only[qae]
  congr 1
  ·funext i;simp;split <;> simp_all
  ·exact Us.app_nil _
 rw[e]
 refine hK k ?_
 simp only[names,List.mem_cons,List.not_mem_nil,or_false]at hk
 rcases hk with rfl | rfl | rfl | rfl | rfl | rfl | rfl | rfl <;> simp
theorem callNum {bs:List UInt8} {p:Int} (ls:List Int) {id n:Nat} (hp:0≤p∧p<1000000000) (hb:bs.length≤2000) {s:S} {dst:Option Nat} {K:S→Prop} (hr:s.h 1000=some (rdOb bs p)) (hid:id≠1000)
  (ho:s.h id=some (i64Ob ls)) (hl:0<ls.length) (hl2:ls.length<2000000) (hn:n=ls.length)
  (hK:∀ k:Int,k∈ls→K ⟨putA s.t dst (.int .i64 k),upd s.h 1000 (some (rdOb bs (p+1))),s.u⟩):callA Go.Proofs.Tryz.prog 23 [.ptr 1000 0 0,.sl id 0 n] dst s K:=by
 subst hn
 refine qac [(1000,.whole 1000),(1001,.whole id)] (by kernel_rfl) (numC bs p ls hp hb hl hl2) (by simp) (by simp;omega) (by simp[hr,ho];exact qad rfl (by simp[i64Ob,i64Row])) (by simp) (by simp[hr,ho]) ?_
 rintro r L' ⟨k,hk,rfl,rfl⟩
 refine⟨[],⟨by simp,by simp,by simp,by simp,by simp⟩,?_⟩
 have e:(qae s [(1000,.whole 1000),(1001,.whole id)] [] dst (.int .i64 k) [(1000,rdOb bs (p+1)),(1001,i64Ob ls)])=⟨putA s.t dst (.int .i64 k),upd s.h 1000 (some (rdOb bs (p+1))),s.u⟩:=by
  simp only[qae]
  congr 1
  ·funext i
   have hren:∀ ρ,renOb ρ (i64Ob ls)=i64Ob ls:=fun ρ=>by simp[i64Ob,renOb,i64Row,Function.comp_def]
   simp[hren]
   by_cases h1:i=id
   ·subst h1;simp[hid,ho]
   ·by_cases h2:i=1000 <;> simp[h1,h2]
  ·exact Us.app_nil _
 rw[e];exact hK k hk
theorem callOf {bs:List UInt8} {p:Int} (ls:List (List UInt8)) {id n:Nat} (hp:0≤p∧p<1000000000) (hb:bs.length≤2000) {s:S} {dst:Option Nat} {K:S→Prop} (hr:s.h 1000=some (rdOb bs p)) (hid:id≠1000)
  (ho:s.h id=some (strOb ls)) (hl:0<ls.length) (hl2:ls.length<2000000) (hn:n=ls.length)
  (hK:∀ k:List UInt8,k∈ls→K ⟨putA s.t dst (.str k),upd s.h 1000 (some (rdOb bs (p+1))),s.u⟩):callA Go.Proofs.Tryz.prog 15 [.ptr 1000 0 0,.sl id 0 n] dst s K:=by
 subst hn
 refine qac [(1000,.whole 1000),(1001,.whole id)] (by kernel_rfl) (ofC bs p ls hp hb hl hl2) (by simp) (by simp;omega) (by simp[hr,ho];exact qad rfl (by simp[strOb,qav])) (by simp) (by simp[hr,ho]) ?_
 rintro r L' ⟨k,hk,rfl,rfl⟩
 refine⟨[],⟨by simp,by simp,by simp,by simp,by simp⟩,?_⟩
 have e:(qae s [(1000,.whole 1000),(1001,.whole id)] [] dst (.str k) [(1000,rdOb bs (p+1)),(1001,strOb ls)])=⟨putA s.t dst (.str k),upd s.h 1000 (some (rdOb bs (p+1))),s.u⟩:=by
  simp only[qae]
  congr 1
  ·funext i
   have hren:∀ ρ,renOb ρ (strOb ls)=strOb ls:=fun ρ=>by simp[strOb,renOb,qav,Function.comp_def]
   simp[hren]
   by_cases h1:i=id
   ·subst h1;simp[hid,ho]
   ·by_cases h2:i=1000 <;> simp[h1,h2]
  ·exact Us.app_nil _
 rw[e];exact hK k hk
theorem isU8_wrap (x:Int):isU8 [.int .u8 (IntKind.u8.wrap x)]=true:=by
 have h:IntKind.u8.wrap x=x % 256:=rfl
 simp[isU8,h]
 try omega
def kinds0:List Int:=[1,1,2,3,3,3,3,3,3,3,4,4,5,6]
def texts0:List (List UInt8):=[[120],[121],[122,122],[111,110,101],[97,122,122],[98,120,108],[],[120],[97,32,98],[49,50,51,52,53,54,55,56,57,48,49,50,51,52,53,54,55,56,57,48]]
theorem opC (bs:List UInt8) (p:Int) (bk':List BS) (hp:0≤p∧p<900000000) (hb:bs.length≤2000) (hl:bk'.length<2000000) (hB:∀ b∈bk',b.bl.length=8∧b.name.length≤24∧b.frm.length≤24) :
  ACall Go.Proofs.Tryz.prog 25 [.ptr 1000 0 0,bk bk'] [(1000,rdOb bs p)] (opR bs p):=by
 refine acv func25 [(5,[zI 0,zJ 1 [3] [],zJ 2 [] [3],zJ 3 [] [3],zJ 4 [3] [3],zJ 5 [] [3],zJ 6 [] [3],zI 7,zI 8,zI 9,zI 10,zI 11]),(7,[zI 0,zJ 1 [3] [],zJ 2 [] [3],zJ 3 [] [3],zJ 4 [3] [3],zJ 5 [] [3],⟨6,[],[3],[9],[]⟩,zI 7,zI 8,zJ 9 [] [3],zI 10])] ntmps25 rfl rfl rfl ?_
 refine va_seq (qal _ ?_)
 simp[bk]
 refine va_cut [0,3,4,5] (oSt bs (bk'.map BS.row)) (oGd p 5) ?_ ?_
 ·simp
  refine callNum (p:=p) kinds0 (by omega) hb (by simp) (by omega) (by simp[i64Ob,kinds0,i64Row]) (by simp[kinds0]) (by simp[kinds0]) (by simp[kinds0]) fun k1 hk1=>?_
  simp
  refine callName (p:=p+1) (by omega) hb (by simp) fun k2 hk2=>?_
  simp
  refine callName (p:=p+1+1) (by omega) hb (by simp) fun k3 hk3=>?_
  simp
  refine callPick (p:=p+1+1+1) (by omega) hb (by simp) fun k4 hk4 _=>?_
  simp
  refine callOf (p:=p+1+1+1+1) texts0 (by omega) hb (by simp) (by omega) (by simp[strOb,texts0,qav]) (by simp[texts0]) (by simp[texts0]) (by simp[texts0]) fun k5 hk5=>?_
  simp
  refine cutX_of (p+1+1+1+1+1,⟨k1,k2,k3,k4,k5⟩) ⟨by simp only;omega,by simp only;omega,hk2,hk3,by simp only[texts0,List.mem_cons,List.not_mem_nil,or_false]at hk5;rcases hk5 with rfl | rfl | rfl | rfl | rfl | rfl | rfl | rfl | rfl | rfl <;> simp⟩ [(1000,1000),(3,3),(4,4),(5,5)] (by simp[qab]) ?_
  simp[canon,oSt,obOf,opOb,BO.row]
 rintro⟨q,o⟩ ⟨h1,h2,h3,h4,h5⟩
 simp only at h1 h2 h3 h4 h5
 refine va_cut [0,3,4,5] (oSt bs (bk'.map BS.row)) (oGd p 8) ?_ ?_
 ·simp[oSt,opOb,BO.row]
  refine callPick (p:=q) (by omega) hb (by simp) fun k1 hk1 _=>?_
  have hk1:=hk1 (by omega)
  by_cases g1:k1=0
  ·simp[g1]
   refine callPick (p:=q+1) (by omega) hb (by simp) fun k2 hk2 _=>?_
   simp
   refine callPick (p:=q+1+1) (by omega) hb (by simp) fun k3 hk3 _=>?_
   simp
   simp only[isU8_wrap,true_and]
   refine cutX_of (q+1+1+1,{ o with text:=[byteOf [.int .u8 (IntKind.u8.wrap (IntKind.i64.wrap (65+k2)))],byteOf [.int .u8 (IntKind.u8.wrap (IntKind.i64.wrap (48+k3)))]] }) ⟨by simp only;omega,by simp only;omega,h3,h4,by simp⟩ [(1000,1000),(3,3),(4,4),(5,5)] (by simp[qab]) (by simp[canon,oSt,obOf,opOb,BO.row])
  ·simp[g1]
   refine cutX_of (q+1,o) ⟨by simp only;omega,by simp only;omega,h3,h4,h5⟩ [(1000,1000),(3,3),(4,4),(5,5)] (by simp[qab]) (by simp[canon,oSt,obOf,opOb,BO.row])
 rintro⟨q,o⟩ ⟨h1,h2,h3,h4,h5⟩
 simp only at h1 h2 h3 h4 h5
 have nth:∀ k:Int,0≤k→k<bk'.length→∃ b,bk'[k.toNat]?=some b∧b∈bk'∧k.toNat<bk'.length:=fun k hk1 hk2=>by
  have:k.toNat<bk'.length:=by omega
  exact⟨bk'[k.toNat],List.getElem?_eq_getElem this,List.getElem_mem _,this⟩
 refine va_cut [0,3,4,5] (oSt bs (bk'.map BS.row)) (oGd p 10) ?_ ?_
 ·by_cases e0:bk'=[]
  ·subst e0
   simp[oSt,opOb,BO.row]
   exact cutX_of (q,o) ⟨by simp only;omega,by simp only;omega,h3,h4,h5⟩ [(1000,1000),(3,3),(4,4),(5,5)] (by simp[qab]) (by simp[canon,oSt,obOf,opOb,BO.row])
  have hlen:0<bk'.length:=List.length_pos_iff.2 e0
  by_cases e1:o.kind=1
  ·simp[oSt,opOb,BO.row,e0,e1,hlen]
   exact cutX_of (q,o) ⟨by simp only;omega,by simp only;omega,h3,h4,h5⟩ [(1000,1000),(3,3),(4,4),(5,5)] (by simp[qab]) (by simp[canon,oSt,obOf,opOb,BO.row,e1])
  simp[oSt,opOb,BO.row,e0,e1,hlen]
  refine callPick (p:=q) (by omega) hb (by simp) fun k1 hk1 _=>?_
  have hk1:=hk1 (by omega)
  by_cases g1:0<k1
  ·simp[g1]
   refine callPick (p:=q+1) (by omega) hb (by simp) fun k2 hk2 _=>?_
   have hk2:=hk2 (by omega)
   obtain⟨b,b1,b2,b3⟩:=nth k2 hk2.1 hk2.2
   have b0:bk'[k2.toNat]=b:=(List.getElem?_eq_some_iff.1 b1).2
   have b8:=hB b b2
   simp[b1,b3,b0,qaq _ b8.1]
   refine⟨hk2,cutX_of (q+1+1,{ o with a:=b.name }) ⟨by simp only;omega,by simp only;omega,b8.2.1,h4,h5⟩ [(1000,1000),(3,3),(4,4),(5,5)] (by simp[qab]) (by simp[canon,oSt,obOf,opOb,BO.row])⟩
  ·simp[g1]
   exact cutX_of (q+1,o) ⟨by simp only;omega,by simp only;omega,h3,h4,h5⟩ [(1000,1000),(3,3),(4,4),(5,5)] (by simp[qab]) (by simp[canon,oSt,obOf,opOb,BO.row,e1])
 rintro⟨q,o⟩ ⟨h1,h2,h3,h4,h5⟩
 simp only at h1 h2 h3 h4 h5
 refine va_cut [0,3,4,5] (oSt bs (bk'.map BS.row)) (oGd p 12) ?_ ?_
 ·by_cases e0:bk'=[]
  ·subst e0
   simp[oSt,opOb,BO.row]
   by_cases e1:o.kind=6
   ·simp[e1]
    exact cutX_of (q,o) ⟨by simp only;omega,by simp only;omega,h3,h4,h5⟩ [(1000,1000),(3,3),(4,4),(5,5)] (by simp[qab]) (by simp[canon,oSt,obOf,opOb,BO.row,e1])
   ·simp[e1]
    exact cutX_of (q,o) ⟨by simp only;omega,by simp only;omega,h3,h4,h5⟩ [(1000,1000),(3,3),(4,4),(5,5)] (by simp[qab]) (by simp[canon,oSt,obOf,opOb,BO.row])
  have hlen:0<bk'.length:=List.length_pos_iff.2 e0
  by_cases e1:o.kind=6
  rotate_left
  ·simp[oSt,opOb,BO.row,e0,e1,hlen]
   exact cutX_of (q,o) ⟨by simp only;omega,by simp only;omega,h3,h4,h5⟩ [(1000,1000),(3,3),(4,4),(5,5)] (by simp[qab]) (by simp[canon,oSt,obOf,opOb,BO.row])
  simp[oSt,opOb,BO.row,e0,e1,hlen]
  refine callPick (p:=q) (by omega) hb (by simp) fun k1 hk1 _=>?_
  have hk1:=hk1 (by omega)
  by_cases g1:0<k1
  ·simp[g1]
   refine callPick (p:=q+1) (by omega) hb (by simp) fun k2 hk2 _=>?_
   have hk2:=hk2 (by omega)
   obtain⟨b,b1,b2,b3⟩:=nth k2 hk2.1 hk2.2
   have b0:bk'[k2.toNat]=b:=(List.getElem?_eq_some_iff.1 b1).2
   have b8:=hB b b2
   simp[b1,b3,b0,qaq _ b8.1,row_take _ b8.1]
   refine⟨hk2,row_all b,cutX_of (q+1+1,{ o with a:=b.frm,b:=b.name }) ⟨by simp only;omega,by simp only;omega,b8.2.2,b8.2.1,h5⟩ [(1000,1000),(3,3),(4,4),(5,5)] (by simp[qab]) (by simp[canon,oSt,obOf,opOb,BO.row,e1])⟩
  ·simp[g1]
   exact cutX_of (q+1,o) ⟨by simp only;omega,by simp only;omega,h3,h4,h5⟩ [(1000,1000),(3,3),(4,4),(5,5)] (by simp[qab]) (by simp[canon,oSt,obOf,opOb,BO.row,e1])
 rintro⟨q,o⟩ ⟨h1,h2,h3,h4,h5⟩
 simp only at h1 h2 h3 h4 h5
 refine va_cut [0,3,4,5] (oSt bs (bk'.map BS.row)) (oGd p 20) ?_ ?_
 ·simp[oSt,opOb,BO.row]
  refine callPick (p:=q) (by omega) hb (by simp) fun k1 hk1 _=>?_
  by_cases k0:k1=0
  ·simp[k0]
   refine callNum (p:=q+1) [0,7,-1] (by omega) hb (by simp) (by omega) (by simp[i64Ob,i64Row]) (by simp) (by simp) (by simp) fun k2 hk2=>?_
   simp
   exact cutX_of (q+1+1,{ o with kind:=k2 }) ⟨by simp only;omega,by simp only;omega,h3,h4,h5⟩ [(1000,1000),(3,3),(4,4),(5,5)] (by simp[qab]) (by simp[canon,oSt,obOf,opOb,BO.row])
  by_cases k0':k1=1
  ·simp[k0']
   refine callNum (p:=q+1) [-1,8] (by omega) hb (by simp) (by omega) (by simp[i64Ob,i64Row]) (by simp) (by simp) (by simp) fun k2 hk2=>?_
   simp
   exact cutX_of (q+1+1,{ o with i:=k2 }) ⟨by simp only;omega,by simp only;omega,h3,h4,h5⟩ [(1000,1000),(3,3),(4,4),(5,5)] (by simp[qab]) (by simp[canon,oSt,obOf,opOb,BO.row])
  by_cases k0'':k1=2
  ·simp[k0'']
   refine callPick (p:=q+1) (by omega) hb (by simp) fun k2 hk2 _=>?_
   have hk2:=hk2 (by omega)
   have w:IntKind.i64.wrap (24+k2)=24+k2:=qao _ (by omega)
   simp[w]
   refine callA_ex (R:=fun r=>∃ t,t.length≤10000∧r=.str t) (by kernel_rfl) ((manyL [120] (24+k2) (by omega) (by simp)).mono fun r L' ⟨t,h0,h1,h2⟩=>⟨⟨t,h0,h1⟩,by rw[h1];rfl,h2⟩) (by simp) ?_
   rintro v ⟨t,htl,rfl⟩
   simp
   exact cutX_of (q+1+1,{ o with text:=t }) ⟨by simp only;omega,by simp only;omega,h3,h4,htl⟩ [(1000,1000),(3,3),(4,4),(5,5)] (by simp[qab]) (by simp[canon,oSt,obOf,opOb,BO.row])
  by_cases k3:k1=3
  ·simp[k3]
   refine callOf (p:=q+1) [[],[65],[97,98,99,100,101,102,103]] (by omega) hb (by simp) (by omega) (by simp[strOb,qav]) (by simp) (by simp) (by simp) fun k2 hk2=>?_
   simp
   have hk2:k2.length≤24:=by
    simp only[List.mem_cons,List.not_mem_nil,or_false]at hk2
    rcases hk2 with rfl | rfl | rfl <;> simp
   exact cutX_of (q+1+1,{ o with a:=k2 }) ⟨by simp only;omega,by simp only;omega,hk2,h4,h5⟩ [(1000,1000),(3,3),(4,4),(5,5)] (by simp[qab]) (by simp[canon,oSt,obOf,opOb,BO.row])
  by_cases k4:k1=4
  ·simp[k4]
   refine callOf (p:=q+1) [[],[66],[97,98,99,100,101,102,103]] (by omega) hb (by simp) (by omega) (by simp[strOb,qav]) (by simp) (by simp) (by simp) fun k2 hk2=>?_
   simp
   have hk2:k2.length≤24:=by
    simp only[List.mem_cons,List.not_mem_nil,or_false]at hk2
    rcases hk2 with rfl | rfl | rfl <;> simp
   exact cutX_of (q+1+1,{ o with b:=k2 }) ⟨by simp only;omega,by simp only;omega,h3,hk2,h5⟩ [(1000,1000),(3,3),(4,4),(5,5)] (by simp[qab]) (by simp[canon,oSt,obOf,opOb,BO.row])
  simp[k0,k0',k0'',k3,k4]
  exact cutX_of (q+1,o) ⟨by simp only;omega,by simp only;omega,h3,h4,h5⟩ [(1000,1000),(3,3),(4,4),(5,5)] (by simp[qab]) (by simp[canon,oSt,obOf,opOb,BO.row])
 rintro⟨q,o⟩ ⟨h1,h2,h3,h4,h5⟩
 simp only at h1 h2 h3 h4 h5
 refine qal _ ?_
 simp[oSt,opOb,BO.row]
 exact⟨[(1000,rdOb bs q)],by simp,o,q,⟨h3,h4,h5⟩,h1,by omega,rfl,rfl⟩
end Go.Av.F

end
section
namespace Go.Av.F
open Go Go.Av
open Go.Proofs Go.Proofs.Tryz
attribute [-simp] getU hdS canon qab i64w
attribute [local simp] tt3 tt4 tt9 tt5 tt22 tt67 tt65 tt90 tt88 tt75 tt52 tt26
def BkG (bs:List BS):Prop:=∀ b∈bs,b.bl.length=8∧b.name.length≤24∧b.frm.length≤24
theorem newB_gd {bs:List BS} {s:BS} (h:BkG bs) (hs:s.bl.length=8∧s.name.length≤24∧s.frm.length≤24):BkG (newB bs s).1:=fun b hb=>by
 rcases newB_mem hb with h1 | rfl
 ·exact h b h1
 ·exact hs
theorem doB_gd {bs:List BS} {o:BO} (h:BkG bs) (ho:OpG o):BkG (doB bs o).1:=by
 have hg:∀ (i:Nat) t,bs[i]?=some t→t.bl.length=8∧t.name.length≤24∧t.frm.length≤24:=fun i t ht=>h _ (List.mem_of_getElem? ht)
 unfold doB
 split
 ·exact newB_gd h ⟨rfl,ho.1,by simp⟩
 ·split
  ·exact h
  ·split
   ·exact h
   ·split
    ·rename_i t ht
     have:=hg _ _ ht
     split
     ·unfold killB
      split
      ·split
       ·exact h
       ·intro b hb
        simp only[List.mem_append]at hb
        rcases hb with hb | hb
        ·exact h _ (List.mem_of_mem_take hb)
        ·exact h _ (List.mem_of_mem_drop hb)
      ·exact h
     ·split
      ·unfold putB
       split
       ·rename_i t2 ht2
        have:=hg _ _ ht2
        split
        ·exact h
        ·split
         ·exact h
         ·intro b hb
          rcases mem_set hb with hb | rfl
          ·exact h _ hb
          ·exact⟨by simp[this.1],this.2⟩
       ·exact h
      ·split
       ·unfold backB
        split
        ·rename_i t2 ht2
         have h2:=hg _ _ ht2
         split
         ·exact h
         ·split
          ·rename_i u hu
           have h3:=hg _ _ hu
           split
           ·exact h
           ·intro b hb
            rcases mem_set hb with hb | rfl
            ·exact h _ hb
            ·exact⟨h3.1,h2.2⟩
          ·exact h
        ·exact h
       ·split
        ·split
         ·exact h
         ·exact newB_gd h ⟨this.1,ho.2,this.2.1⟩
        ·split
         ·exact h
         ·exact newB_gd h ⟨this.1,ho.2,this.2.1⟩
    ·exact h
end Go.Av.F

end
section
namespace Go.Av.F
open Go Go.Av
open Go.Proofs Go.Proofs.Tryz
attribute [-simp] getU hdS canon qab i64w
attribute [local simp] tt3 tt4 tt9 tt5 tt22 tt67 tt65 tt90 tt88 tt75 tt52 tt26
@[simp] theorem row_drop1 (t:BS):(BS.row t).drop 1=.int .i64 t.kind::.str t.frm::t.bl.map .str:=rfl
@[simp] theorem row_drop2 (t:BS):(BS.row t).drop 2=.str t.frm::t.bl.map .str:=rfl
@[simp] theorem row_take1 (t:BS):(BS.row t).take 1=[.str t.name]:=rfl
@[simp] theorem row_take2 (t:BS):(BS.row t).take 2=[.str t.name,.int .i64 t.kind]:=rfl
@[simp] theorem row_take3 (t:BS):(BS.row t).take 3=[.str t.name,.int .i64 t.kind,.str t.frm]:=rfl
end Go.Av.F

end
section
namespace Go.Av.F
open Go Go.Av
open Go.Proofs Go.Proofs.Tryz
attribute [-simp] getU hdS canon qab i64w
attribute [local simp] tt3 tt4 tt9 tt5 tt22 tt67 tt65 tt90 tt88 tt75 tt52 tt26
end Go.Av.F

end
section
namespace Go.Av.F
open Go Go.Av
open Go.Proofs Go.Proofs.Tryz
attribute [-simp] getU hdS canon qab i64w
def resB (bs:List BS) (o:BO):List BS×Int:=if qbe bs=true then doB bs o else ([],5)
def bkP (res:List BS×Int) (r:AV) (L':List (Nat×Ob)):Prop:=r=.tup [bk res.1,.int .i64 res.2]∧L'=[]
theorem clR_rows:∀ bs:List BS,clR (bs.map BS.row)=true
 | []=>rfl
 | a::r=>by
  have:=clR_rows r
  simp only[clR,List.map_cons,List.all_cons,Bool.and_eq_true]at this ⊢
  refine⟨?_,this⟩
  simp[BS.row,clL,clL_strs,clA]
theorem pureC {f:Nat} {args:List AV} {xs:List Nat} {bs:List BS} {o:BO} (h:ACall Go.Proofs.Tryz.prog f args [] (bkN xs (qbe bs) (doB bs o))):ACall Go.Proofs.Tryz.prog f args [] (bkP (resB bs o)):=by
 unfold resB
 cases h1:qbe bs with
 | false =>
  rw[h1]at h
  refine h.imp ?_
  rintro r L' hr
  simp only[bkN,Bool.false_eq_true,if_false]at hr
  obtain⟨rfl,rfl⟩:=hr
  exact⟨_,impA_tup2 (impA_agg1 (qby 11)) (qaz _),rfl,rfl⟩
 | true =>
  rw[h1]at h
  refine h.frz ?_
  rintro r L' hr
  simp only[bkN,if_true]at hr
  obtain⟨id,_,rfl,rfl⟩:=hr
  refine⟨id,bkOb (doB bs o).1,rfl,clR_rows _,?_,rfl⟩
  simp[bk,bkOb]
theorem specDoC (bs:List BS) (o:BO) (hb:BkG bs) (hl:bs.length<1500000) (ho:OpG o):ACall Go.Proofs.Tryz.prog 27 [bk bs,.agg (BO.row o)] [] (bkP (resB bs o)) :=
 pureC (xs:=[901,902]) (sbookDoC bs o (by omega) (fun b h=>(hb b h).1) (fun b h=>by have:=(hb b h).2.1;omega) ⟨by have:=ho.1;omega,by have:=ho.2;omega⟩)
theorem implOkC (bs:List BS) (hb:BkG bs) (hl:bs.length<1500000):ACall Go.Proofs.Tryz.prog 36 [bk bs] [] (fun r L'=>r=.bool (qbe bs)∧L'=[]) :=
 ok_eq bs ▸ ibookOkC bs (by omega) (fun b h=>(hb b h).1) (fun b h=>by have:=(hb b h).2.1;omega)
theorem specOkC (bs:List BS) (hb:BkG bs) (hl:bs.length<1500000):ACall Go.Proofs.Tryz.prog 43 [bk bs] [] (fun r L'=>r=.bool (qbe bs)∧L'=[]) :=
 bookOkC bs (by omega) (fun b h=>(hb b h).1) (fun b h=>by have:=(hb b h).2.1;omega)
theorem resB_gd {bs:List BS} {o:BO} (h:BkG bs) (ho:OpG o):BkG (resB bs o).1:=by
 unfold resB;split
 ·exact doB_gd h ho
 ·simp[BkG]
theorem resB_len (bs:List BS) (o:BO):(resB bs o).1.length≤bs.length+1:=by
 unfold resB;split
 ·exact doB_len bs o
 ·simp
end Go.Av.F

end
section
namespace Go.Av.F
open Go Go.Av
open Go.Proofs Go.Proofs.Tryz
attribute [-simp] getU hdS canon qab i64w
attribute [local simp] tt3 tt4 tt9 tt5 tt22 tt67 tt65 tt90 tt88 tt75 tt52 tt26
structure TR where
 base:List BS
 since:List BO
 sure:Int
def TR.row (t:TR):List AV:=[.lst 11 (t.base.map BS.row),.lst 5 (t.since.map BO.row),.int .i64 t.sure]
def bkRow (b:List BS):List AV:=[.lst 11 (b.map BS.row)]
theorem op_len (o:BO):(BO.row o).length=5:=rfl
theorem op_take (o:BO):(BO.row o).take 5=BO.row o:=rfl
attribute [local simp] op_len op_take
end Go.Av.F

end
section
namespace Go.Av.F
open Go Go.Av
open Go.Proofs Go.Proofs.Tryz
attribute [-simp] getU hdS canon qab i64w
attribute [local simp] tt3 tt4 tt9 tt5 tt22 tt67 tt65 tt90 tt88 tt75 tt52 tt26 op_len op_take
def opsOb (l:List BO):Ob:=⟨5,l.map BO.row⟩
theorem ops_sz (l:List BO):(opsOb l).sz=5:=rfl
theorem ops_els (l:List BO):(opsOb l).els=l.map BO.row:=rfl
attribute [local simp] ops_sz ops_els
def zTr:Ob:=⟨3,[[.nils,.nils,.int .i64 0]]⟩
def tA (bs:List UInt8) (x:Int×List BS):S :=
 ⟨mkT [(0,.ptr 1000 0 0),(2,.ptr 2 0 0),(3,.ptr 3 0 0),(4,.ptr 4 0 0)],hpOf [(1000,rdOb bs x.1),(2,zTr),(3,⟨3,[[.lst 11 (x.2.map BS.row),.nils,.int .i64 0]]⟩),(4,⟨1,[bkRow x.2]⟩)],Us.of [1000,1000,2,3,4]⟩
def tN (bs:List UInt8) (b:List BS) (sure:Int) (q:Int) (i:Int):S :=
 ⟨mkT [(0,.ptr 1000 0 0),(2,.ptr 2 0 0),(3,.ptr 3 0 0),(4,.ptr 4 0 0),(5,.int .i64 i)],hpOf [(1000,rdOb bs q),(2,zTr),(3,⟨3,[[.lst 11 (b.map BS.row),.nils,.int .i64 sure]]⟩),(4,⟨1,[bkRow b]⟩)],Us.of [1000,1000,2,3,4]⟩
def tC (bs:List UInt8) (b:List BS) (sure:Int) (ops:List BO) (q:Int) (i:Int):S :=
 ⟨mkT [(0,.ptr 1000 0 0),(2,.ptr 2 0 0),(3,.ptr 3 0 0),(4,.ptr 4 0 0),(5,.int .i64 i)],hpOf [(1000,rdOb bs q),(2,zTr),(3,⟨3,[[.lst 11 (b.map BS.row),.sl 901 0 ops.length,.int .i64 sure]]⟩),(4,⟨1,[bkRow b]⟩),(901,opsOb ops)],Us.of [1000,1000,2,3,4,901]⟩
def tS (bs:List UInt8) (b:List BS) (sure:Int) (x:Int×Int×List BO):S:=if x.2.2=[] then tN bs b sure x.2.1 x.1 else tC bs b sure x.2.2 x.2.1 x.1
end Go.Av.F

end
