/- Lemmas for the proof, no statement of the seat; no conditions. -/
import Derived.Test.YthgigdhkcffloaaGreatDoorLayAJ
import Derived.ProofKit
import Derived.OpenShut
import Derived.ChangeArms
import Derived.DataReads
import Derived.Test.YthgigdhkcffloaaGreatDoorProg
set_option linter.unusedSimpArgs false
set_option linter.unusedVariables false
set_option linter.unnecessarySimpa false
set_option maxRecDepth 100000
section
namespace Go.Av
open Go.RowKit Go.ChangeShapes Go.WideShapes Go.ChangeAt
section
variable {P:Program} {n:Nat} {t:TypeId} {avs:List AV}
end
def Rels (w:World) (avs:List AV) (cs:List Value):Prop:=avs.length=cs.length∧∀ j,j<cs.length→AVRel w (Old w) noG (avs.getD j .top) (cs.getD j undef)
theorem Rels.nil (w:World):Rels w [] []:=⟨rfl,fun j hj=>by simp at hj⟩
theorem Rels.one {w:World} {a:AV} {v:Value} (h:AVRel w (Old w) noG a v):Rels w [a] [v]:=⟨rfl,fun j hj=>by
 obtain rfl:j=0:=by simpa using hj
 exact h⟩
theorem Rels.app {w:World} {a b:List AV} {c d:List Value} (h1:Rels w a c) (h2:Rels w b d):Rels w (a++b) (c++d):=by
 refine⟨by simp[h1.1,h2.1],fun j hj=>?_⟩
 simp only[List.getD_eq_getElem?_getD]
 by_cases h:j<c.length
 ·rw[List.getElem?_append_left (by rw[h1.1];exact h),List.getElem?_append_left h]
  have:=h1.2 j h
  simpa only [List.getD_eq_getElem?_getD]using this
 ·rw[List.getElem?_append_right (by rw[h1.1];omega),List.getElem?_append_right (by omega),h1.1]
  have:=h2.2 (j-c.length) (by simp at hj;omega)
  simpa only [List.getD_eq_getElem?_getD]using this
variable {H:Type} {enc:TypeId×Value→H} {P:Program} {w:World} {spare:Nat→Bool} {held:Bool}
end Go.Av

end
section
namespace Go.Av.F
open Go Go.Av
open Go.Proofs Go.Proofs.Tryz
attribute [-simp] getU hdS canon qab i64w
attribute [local simp] tt3 tt4 tt9 tt5 tt22 tt51 tt26 tt52
def qav (s:List UInt8):List AV:=[.str s]
def i64Row (n:Int):List AV:=[.int .i64 n]
def strOb (ls:List (List UInt8)):Ob:=⟨1,ls.map qav⟩
def i64Ob (ls:List Int):Ob:=⟨1,ls.map i64Row⟩
theorem qbd (ρ:Nat→Option Plc) (bs:List UInt8) (p:Int):renOb ρ (rdOb bs p)=rdOb bs p:=by simp[renOb,rdOb,renL,ren]
theorem rd_mt (hv:Hp) (ids:List Nat) (ρ:Nat→Option Plc) (bs:List UInt8) (p:Int):rowsMt hv ids ρ (rdOb bs p).els (rdOb bs p).els:=.inl (.inl ⟨rfl,by simp[rdOb,clR]⟩)
@[simp] theorem strOb_sz (ls:List (List UInt8)):(strOb ls).sz=1:=rfl
@[simp] theorem i64Ob_sz (ls:List Int):(i64Ob ls).sz=1:=rfl
@[simp] theorem rdOb_sz (bs:List UInt8) (p:Int):(rdOb bs p).sz=2:=rfl
attribute [simp] qbd rd_mt
theorem ofC (bs:List UInt8) (p:Int) (ls:List (List UInt8)) (hp:0≤p∧p<1000000000) (hb:bs.length≤2000) (hl:0<ls.length) (hl2:ls.length<2000000) :
  ACall PP 15 [.ptr 1000 0 0,.sl 1001 0 ls.length] [(1000,rdOb bs p),(1001,strOb ls)] (fun r L'=>∃ s,s∈ls∧r=.str s∧L'=[(1000,rdOb bs (p+1)),(1001,strOb ls)]):=by
 refine acx func15 [] ntmps15 rfl rfl rfl ?_
 simp
 refine qac [(1000,.whole 1000)] (by kernel_rfl) (pickC bs p ls.length hp hb) (by simp) (by simp) (by simp) (by simp) (by simp) ?_
 rintro r L' ⟨k,rfl,h1,h2,rfl⟩
 have hk:=h1 (by omega)
 have e1:ls[k.toNat]?=some (ls[k.toNat]'(by omega)):=List.getElem?_eq_getElem _
 have hm:ls[k.toNat]'(by omega)∈ls:=List.getElem_mem _
 generalize ls[k.toNat]'(by omega)=x at e1 hm
 refine⟨[],⟨by simp,by simp,by simp,by simp,by simp⟩,?_⟩
 simp[strOb,qav,e1]
 exact⟨by omega,by omega,_,by simp,x,hm,rfl,rfl⟩
theorem numC (bs:List UInt8) (p:Int) (ls:List Int) (hp:0≤p∧p<1000000000) (hb:bs.length≤2000) (hl:0<ls.length) (hl2:ls.length<2000000) :
  ACall PP 23 [.ptr 1000 0 0,.sl 1001 0 ls.length] [(1000,rdOb bs p),(1001,i64Ob ls)] (fun r L'=>∃ s,s∈ls∧r=.int .i64 s∧L'=[(1000,rdOb bs (p+1)),(1001,i64Ob ls)]):=by
 refine acx func23 [] ntmps23 rfl rfl rfl ?_
 simp
 refine qac [(1000,.whole 1000)] (by kernel_rfl) (pickC bs p ls.length hp hb) (by simp) (by simp) (by simp) (by simp) (by simp) ?_
 rintro r L' ⟨k,rfl,h1,h2,rfl⟩
 have hk:=h1 (by omega)
 have e1:ls[k.toNat]?=some (ls[k.toNat]'(by omega)):=List.getElem?_eq_getElem _
 have hm:ls[k.toNat]'(by omega)∈ls:=List.getElem_mem _
 generalize ls[k.toNat]'(by omega)=x at e1 hm
 refine⟨[],⟨by simp,by simp,by simp,by simp,by simp⟩,?_⟩
 simp[i64Ob,i64Row,e1]
 exact⟨by omega,by omega,_,by simp,x,hm,rfl,rfl⟩
theorem openC (code:List UInt8) (hl:code.length<4611686018427387904):ACall PP 8 [.lst 1 (code.map u8row)] [] (fun r L'=>r=.ptr 10 0 0∧L'=[(10,rdOb (code.take 2000) 0)]):=by
 by_cases h:2000<code.length
 ·have h':(2000:Int)<code.length:=by omega
  refine acx func8 [] ntmps8 rfl rfl rfl ?_
  simp[h',show ¬ (code.length:Int)≤2000 by omega,rdOb,List.map_take]
  omega
 ·have e1:code.take 2000=code:=List.take_of_length_le (by omega)
  refine acx func8 [] ntmps8 rfl rfl rfl ?_
  simp[show ¬ (2000:Int)<code.length by omega,e1,show(code.length:Int)≤2000 by omega,rdOb]
def names:List (List UInt8):=[[97],[98],[99],[100],[101],[102],[103],[118,111,108]]
def ofR (bs:List UInt8) (p:Int) (ls:List (List UInt8)) (r:AV) (L':List (Nat×Ob)):Prop:=∃ s,s∈ls∧r=.str s∧L'=[(1000,rdOb bs (p+1))]
theorem nameC (bs:List UInt8) (p:Int) (hp:0≤p∧p<1000000000) (hb:bs.length≤2000):ACall PP 52 [.ptr 1000 0 0] [(1000,rdOb bs p)] (ofR bs p names):=by
 refine acx func52 [] ntmps52 rfl rfl rfl ?_
 simp
 refine qac [(1000,.whole 1000),(1001,.whole 4)] (by kernel_rfl) (ofC bs p names hp hb (by simp[names]) (by simp[names])) (by simp[names]) (by simp) (by simp;exact qad (by rfl) (by simp[clR])) (by simp) (by simp) ?_
 rintro r L' ⟨x,hx,rfl,rfl⟩
 refine⟨[],⟨by simp,by simp,by simp,by simp,by simp⟩,?_⟩
 simp
 exact⟨_,by simp,x,hx,rfl,rfl⟩
end Go.Av.F

end
section
namespace Go.Av.F
open Go Go.Av
open Go.Proofs Go.Proofs.Tryz
attribute [-simp] getU hdS canon qab i64w
attribute [local simp] tt3 tt4 tt9 tt5 tt22 tt67 tt65 tt90 tt88
structure BS where
 name:List UInt8
 kind:Int
 frm:List UInt8
 bl:List (List UInt8)
deriving DecidableEq,Inhabited
def BS.row (b:BS):List AV:=.str b.name::.int .i64 b.kind::.str b.frm::b.bl.map .str
def atP (bs:List BS) (name:List UInt8):Nat:=(bs.takeWhile fun b=>Op.bytesLess b.name name).length
def atB (bs:List BS) (name:List UInt8):Bool:=match bs[atP bs name]? with
 | some b=>b.name == name
 | none=>false
def bk (bs:List BS):AV:=.agg [.lst 11 (bs.map BS.row)]
theorem takeWhile_step {α:Type} (p:α→Bool):∀ (l:List α) (i:Nat) (x:α),(∀ j,j<i→∀ y,l[j]?=some y→p y=true)→l[i]?=some x→i≤(l.takeWhile p).length∧(p x=false→(l.takeWhile p).length=i)
 | [],i,x,h,hx=>by simp at hx
 | a::r,0,x,h,hx=>by
  simp only[List.getElem?_cons_zero,Option.some.injEq]at hx
  subst hx
  refine⟨by omega,fun hp=>by simp[List.takeWhile,hp]⟩
 | a::r,i+1,x,h,hx=>by
  have ha:p a=true:=h 0 (by omega) a (by simp)
  obtain⟨h1,h2⟩:=takeWhile_step p r i x (fun j hj y hy=>h (j+1) (by omega) y (by simpa using hy)) (by simpa using hx)
  refine⟨by simp[List.takeWhile,ha];omega,fun hp=>by simp[List.takeWhile,ha,h2 hp]⟩
theorem takeWhile_all {α:Type} (p:α→Bool):∀ (l:List α),(∀ x∈l,p x=true)→l.takeWhile p=l
 | [],_=>rfl
 | a::r,h=>by simp[List.takeWhile,h a (by simp)];exact takeWhile_all p r fun x hx=>h x (by simp[hx])
theorem atC (bs:List BS) (name:List UInt8) (hl:bs.length<2000000):ACall Go.Proofs.Tryz.prog 19 [bk bs,.str name] [] (fun r L'=>r=.tup [.int .i64 (atP bs name),.bool (atB bs name)]∧L'=[]):=by
 refine acx func19 [(4,[zI 0,zI 1,zI 2,zJ 3 [2] [],zI 4,zI 5,zI 6,zI 7,zJ 8 [2] [],zJ 9 [] [2],zI 10,zI 11,zI 12,zJ 13 [] [2],zI 14,zI 15,zJ 16 [] [2],zI 17])] ntmps19 rfl rfl rfl ?_
 simp[bk]
 refine qbu (X:=Nat) [1,2,6] (fun i=>⟨mkT [(1,.str name),(2,.ptr 2 0 0),(6,.int .i64 i)],hpOf [(2,⟨1,[[.lst 11 (bs.map BS.row)]]⟩)],Us.of [2]⟩) (fun i=>bs.length-i) (fun i=>i≤bs.length∧∀ j,j<i→∀ y,bs[j]?=some y→Op.bytesLess y.name name=true) 0 ⟨by simp,[(2,2)],by simp[qab],by simp[canon,obOf]⟩ ?_
 rintro i ⟨hi,ha⟩
 skip
 by_cases h1:i<bs.length
 ·obtain⟨b,e0⟩:∃ b,bs[i]=b:=⟨_,rfl⟩
  have e1:bs[i]?=some b:=by rw[← e0];exact List.getElem?_eq_getElem h1
  have e2:IntKind.i64.wrap ((i:Int)+1)=((i+1:Nat):Int):=by rw[qao _ (by omega)];omega
  have ht:=takeWhile_step (fun b:BS=>Op.bytesLess b.name name) bs i b (fun j hj y hy=>by simpa using ha j hj y hy) e1
  cases h2:Op.bytesLess b.name name with
  | true =>
   simp[h1,e0,e1,BS.row,h2,e2]
   refine qbs (i+1) (by omega) ⟨by omega,fun j hj y hy=>?_⟩ [(2,2)] (by simp[qab]) (by simp[canon,obOf])
   by_cases hji:j=i
   ·subst hji;rw[e1]at hy;injection hy with hy;subst hy;exact h2
   ·exact ha j (by omega) y hy
  | false =>
   have ep:atP bs name=i:=ht.2 (by simpa using h2)
   simp[h1,e0,e1,BS.row,h2,ep,atB]
 ·have hi':i=bs.length:=by omega
  have ep:atP bs name=bs.length:=by
   unfold atP
   rw[takeWhile_all _ _ (fun b hb=>by
    obtain⟨j,hj,e⟩:=List.mem_iff_getElem.1 hb
    have:=ha j (by omega) b (by rw[← e];exact List.getElem?_eq_getElem hj)
    simpa using this)]
  subst hi'
  simp[h1,ep,atB]
end Go.Av.F

end
section
namespace Go.Av.F
open Go Go.Av
open Go.Proofs Go.Proofs.Tryz
attribute [-simp] getU hdS canon qab i64w
attribute [local simp] tt3 tt4 tt9 tt5 tt22 tt67 tt65 tt90 tt88
@[simp] theorem row0 (b:BS):(BS.row b)[0]?=some (.str b.name):=rfl
@[simp] theorem row1 (b:BS):(BS.row b)[1]?=some (.int .i64 b.kind):=rfl
@[simp] theorem row2 (b:BS):(BS.row b)[2]?=some (.str b.frm):=rfl
@[simp] theorem row0' (b:BS) (h:0<(BS.row b).length):(BS.row b)[0]'h=.str b.name:=rfl
@[simp] theorem row1' (b:BS) (h:1<(BS.row b).length):(BS.row b)[1]'h=.int .i64 b.kind:=rfl
@[simp] theorem row2' (b:BS) (h:2<(BS.row b).length):(BS.row b)[2]'h=.str b.frm:=rfl
@[simp] theorem row3 (b:BS):(BS.row b).drop 3=b.bl.map .str:=rfl
theorem qaq (b:BS) (h:b.bl.length=8):(BS.row b).length=11:=by simp[BS.row,h]
theorem row_take (b:BS) (h:b.bl.length=8):(BS.row b).take 11=BS.row b:=List.take_of_length_le (by rw[qaq b h];omega)
theorem row_drop (b:BS) (h:b.bl.length=8):(BS.row b).drop 11=[]:=List.drop_of_length_le (by rw[qaq b h];omega)
theorem row_cl (b:BS):clL (BS.row b)=true:=by
 have:∀ l:List (List UInt8),clL (l.map .str)=true:=fun l=>by induction l <;> simp_all
 simp[BS.row,this]
theorem row_one (b:BS):(BS.row b).all oneA=true:=by simp[BS.row,oneA]
theorem row_ren (ρ:Nat→Option Plc) (b:BS):renL ρ (BS.row b)=BS.row b:=by
 have:∀ l:List (List UInt8),renL ρ (l.map .str)=l.map .str:=fun l=>by induction l <;> simp_all
 simp[BS.row,this]
@[simp] theorem row_ren' (ρ:Nat→Option Plc) (b:BS):renL ρ (BS.row b)=BS.row b:=row_ren ρ b
@[simp] theorem row_cl' (b:BS):clL (BS.row b)=true:=row_cl b
theorem row_all (b:BS):∀ x∈BS.row b,oneA x=true:=fun x hx=>List.all_eq_true.1 (row_one b) x hx
def roots (bs:List BS):Nat→BS→Bool
 | 0,_=>false
 | n+1,s=>if s.frm=[] then s.kind == 1 else
   match bs[atP bs s.frm]? with
   | some t=>if atB bs s.frm=true∧t.kind≠s.kind then roots bs n t else false
   | none=>false
theorem rootsC (bs:List BS) (s:BS) (hl:bs.length<2000000) (hB:∀ b∈bs,b.bl.length=8) (hs:s.bl.length=8):ACall Go.Proofs.Tryz.prog 72 [bk bs,.agg (BS.row s)] [] (fun r L'=>r=.bool (roots bs (bs.length+1) s)∧L'=[]):=by
 obtain⟨res,hres⟩:∃ res,roots bs (bs.length+1) s=res:=⟨_,rfl⟩
 rw[hres]
 refine acx func72 [(7,[zI 0,zI 1,zI 2,zI 3,zJ 4 [2] [],zJ 5 [] [2],zI 6,zI 7,zI 8,zJ 9 [] [2],zJ 10 [3] [2],zI 11,zI 12])] ntmps72 rfl rfl rfl ?_
 simp[bk,qaq _ hs]
 refine qbu (X:=Nat×BS) [2,3,5] (fun x=>⟨mkT [(2,.ptr 2 0 0),(3,.ptr 3 0 0),(5,.int .i64 x.1)],hpOf [(2,⟨1,[[.lst 11 (bs.map BS.row)]]⟩),(3,⟨11,[BS.row x.2]⟩)],Us.of [2,3]⟩) (fun x=>bs.length+1-x.1)
  (fun x=>x.1≤bs.length+1∧x.2.bl.length=8∧res=roots bs (bs.length+1-x.1) x.2) (0,s) ⟨⟨by simp,hs,hres.symm⟩,[(2,2),(3,3)],by simp[qab],by simp[canon,obOf]⟩ ?_
 rintro⟨i,t⟩ ⟨hi,ht,he⟩
 simp only at hi ht he
 skip
 by_cases h1:i≤bs.length
 ·obtain⟨n,hn⟩:∃ n,bs.length+1-i=n+1:=⟨bs.length-i,by omega⟩
  have e2:IntKind.i64.wrap ((i:Int)+1)=((i+1:Nat):Int):=by rw[qao _ (by omega)];omega
  rw[hn]at he
  by_cases h2:t.frm=[]
  ·simp[h1,h2,he,roots]
  ·simp[h1,h2]
   refine qcb (by kernel_rfl) (atC bs t.frm hl) (by simp[bk]) (by simp) ?_
   cases h3:atB bs t.frm with
   | false =>
    have:res=false:=by
     rw[he];simp only[roots,h2,if_false,h3]
     split <;> simp
    simp[this]
   | true =>
    obtain⟨u,e1⟩:∃ u,bs[atP bs t.frm]?=some u:=by
     unfold atB at h3
     split at h3
     ·rename_i u hu;exact⟨u,hu⟩
     ·cases h3
    have hlt:atP bs t.frm<bs.length:=(List.getElem?_eq_some_iff.1 e1).1
    have hu:u.bl.length=8:=hB u (List.mem_of_getElem? e1)
    obtain⟨m,hm⟩:∃ m,atP bs t.frm=m:=⟨_,rfl⟩
    rw[hm]at e1 hlt
    have e0:bs[m]=u:=by rw[List.getElem?_eq_getElem hlt]at e1;injection e1
    by_cases h4:u.kind=t.kind
    ·have:res=false:=by
      rw[he];simp[roots,h2,h3,hm,e1,h4]
     simp[hm,hlt,e0,e1,h4,this,qaq _ hu,qaq _ ht]
    ·have e5:res=roots bs n u:=by
      rw[he];simp[roots,h2,h3,hm,e1,h4]
     simp[hm,hlt,e0,e1,h4,qaq _ hu,qaq _ ht,row_take _ hu,row_drop _ ht,row_all,e2]
     refine⟨row_all u,?_⟩
     refine qbs (i+1,u) (by simp only;omega) ⟨by simp only;omega,hu,?_⟩ [(2,2),(3,3)] (by simp[qab]) (by simp[canon,obOf])
     simp only;rw[e5];congr 1;omega
 ·have:res=false:=by rw[he,show bs.length+1-i=0 by omega];rfl
  simp[h1,this]
end Go.Av.F

end
