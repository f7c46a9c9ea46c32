/- Lemmas for the proof, no statement of the seat; no conditions. -/
import Derived.Test.YthiidgicibfbjaaGreatDoorLayAK
import Derived.ProofKit
import Derived.OpenShut
import Derived.ChangeArms
import Derived.DataReads
import Derived.Test.YthiidgicibfbjaaGreatDoorProg
set_option linter.unusedSimpArgs false
set_option linter.unusedVariables false
set_option linter.unnecessarySimpa false
set_option maxRecDepth 100000
set_option maxHeartbeats 400000
section
namespace Go.Av
open Go.RowKit Go.ChangeShapes Go.WideShapes Go.ChangeAt
def qiJ (P:Program) (g:TypeId→Bool):List Field→Nat→Nat→Bool
 | [],off,total=>off == total
 | f::r,off,total=>f.offset == off && g f.type && qiJ P g r (off+P.cellsOf f.type) total
def qhw (P:Program):Nat→TypeId→Bool
 | 0,_=>false
 | n+1,t=>match P.underlying t with
  | some .bool | some (.int _) | some .string=>true
  | some (.slice e)=>qhw P n e && decide (0<P.cellsOf e)
  | some (.struct fs)=>qiJ P (qhw P n) fs.toList 0 (P.cellsOf t)
  | some (.array k e)=>qhw P n e && (k * P.cellsOf e == P.cellsOf t)
  | _=>false
def qp9 (G:TypeId→List AV→Prop):List Field→List AV→Prop
 | [],avs=>avs=[]
 | f::r,avs=>∃ a b,avs=a++b∧G f.type a∧qp9 G r b
def qnU (G:List AV→Prop):Nat→List AV→Prop
 | 0,avs=>avs=[]
 | k+1,avs=>∃ a b,avs=a++b∧G a∧qnU G k b
def Shp (P:Program):Nat→TypeId→List AV→Prop
 | 0,_,_=>False
 | n+1,t,avs=>match P.underlying t with
  | some .bool=>∃ b,avs=[.bool b]
  | some (.int k)=>∃ z,(Lit.int k z).wf=true∧avs=[.int k z]
  | some .string=>∃ s:List UInt8,s.length≤maxLen∧avs=[.str s]
  | some (.slice e)=>∃ els,els.length≤maxLen∧avs=[.lst (P.cellsOf e) els]∧∀ r∈els,Shp P n e r
  | some (.struct fs)=>qp9 (Shp P n) fs.toList avs
  | some (.array k e)=>qnU (Shp P n e) k avs
  | _=>False
section
variable {P:Program} {n:Nat} {t:TypeId} {avs:List AV}
theorem qkj (ht:P.underlying t=some .bool) (h:Shp P (n+1) t avs):∃ b,avs=[.bool b]:=by
 simp only[Shp]at h;rw[ht]at h;exact h
theorem qwR {k:IntKind} (ht:P.underlying t=some (.int k)) (h:Shp P (n+1) t avs):∃ z,(Lit.int k z).wf=true∧avs=[.int k z]:=by
 simp only[Shp]at h;rw[ht]at h;exact h
theorem qfg (ht:P.underlying t=some .string) (h:Shp P (n+1) t avs):∃ s:List UInt8,s.length≤maxLen∧avs=[.str s]:=by
 simp only[Shp]at h;rw[ht]at h;exact h
theorem qd6 {e:TypeId} (ht:P.underlying t=some (.slice e)) (h:Shp P (n+1) t avs):∃ els,els.length≤maxLen∧avs=[.lst (P.cellsOf e) els]∧∀ r∈els,Shp P n e r:=by
 simp only[Shp]at h;rw[ht]at h;exact h
theorem qcX {fs:Array Field} (ht:P.underlying t=some (.struct fs)) (h:Shp P (n+1) t avs):qp9 (Shp P n) fs.toList avs:=by
 simp only[Shp]at h;rw[ht]at h;exact h
theorem qlG {k:Nat} {e:TypeId} (ht:P.underlying t=some (.array k e)) (h:Shp P (n+1) t avs):qnU (Shp P n e) k avs:=by
 simp only[Shp]at h;rw[ht]at h;exact h
end
def Rels (w:World) (avs:List AV) (cs:List Value):Prop:=avs.length=cs.length∧∀ j,j<cs.length→AVRel w (Old w) noG (avs.getD j .top) (cs.getD j undef)
theorem Rels.nil (w:World):Rels w [] []:=⟨rfl,fun j hj=>by simp at hj⟩
theorem Rels.one {w:World} {a:AV} {v:Value} (h:AVRel w (Old w) noG a v):Rels w [a] [v]:=⟨rfl,fun j hj=>by
 obtain rfl:j=0:=by simpa using hj
 exact h⟩
theorem Rels.app {w:World} {a b:List AV} {c d:List Value} (h1:Rels w a c) (h2:Rels w b d):Rels w (a++b) (c++d):=by
 refine⟨by simp[h1.1,h2.1],fun j hj=>?_⟩;simp only[qGo];by_cases h:j<c.length
 ·rw[qGq (by rw[h1.1];exact h),qGq h];have:=h1.2 j h;simpa only [qGo]using this
 ·rw[qGp (by rw[h1.1];omega),qGp (by omega),h1.1];have:=h2.2 (j-c.length) (by simp at hj;omega);simpa only [qGo]using this
variable {H:Type} {enc:TypeId×Value→H} {P:Program} {w:World} {spare:Nat→Bool} {held:Bool}
theorem qow:∀ (n:Nat),
  (∀ (t:TypeId) (cs:List Value) (fuel:Nat) (x:DataW H×List MemPlace),qhw P n t=true→DataW.trod enc P w 0 spare held fuel t cs=some x→∃ avs,Rels w avs cs∧Shp P n t avs)
 | 0,t,cs,fuel,x,hp,h=>by simp[qhw]at hp
 | n+1,t,cs,fuel,x,hp,h=>by
  simp only[qhw]at hp;simp only[Shp];split at hp
  ·rename_i ht;obtain⟨b,rfl,_⟩:=DataW.trod_bool ht h;exact⟨[.bool b],.one (.bool _ _),⟨b,rfl⟩⟩
  ·rename_i k ht;obtain⟨z,rfl,_,hw⟩:=DataW.trod_int ht h;exact⟨[.int k z],.one (.int _ _ _),⟨z,hw,rfl⟩⟩
  ·rename_i ht;obtain⟨s,rfl,_,hs⟩:=DataW.trod_string ht h;refine⟨[.str s.data.toList],.one ?_,⟨s.data.toList,by simpa using hs,rfl⟩⟩;have:=AVRel.str (w:=w) (Z:=Old w) noG s.data.toList;simpa using this
  ·rename_i e ht;simp only[Bool.and_eq_true,decide_eq_true_eq]at hp;rcases DataW.trod_slice ht h with⟨rfl,_⟩ | ⟨a,len,cap,elems,rest,m,_,rfl,_,_,hlc,hm,hel,hget,_,_⟩
   ·exact⟨[.lst (P.cellsOf e) []],.one (.lst _ _ [] none 0 (fun _ _=>undef) (qFM _) (fun h=>absurd rfl h) (fun i hi=>by simp at hi) (fun i j hi=>by simp at hi)),[],qGe _,rfl,by simp⟩
   ·have each:∀ i,i<len→∃ (row:List AV) (vs:List Value),vs.length=P.cellsOf e∧(∀ j,j<P.cellsOf e→w.cell? ((a.add (i * P.cellsOf e)).add j)=vs[j]?)∧Rels w row vs∧Shp P n e row:=fun i hi=>by
     have hg:=hget i hi;rw[qF3 (by omega)]at hg;cases hc:w.cells? 0 (a.add (i * P.cellsOf e)) (P.cellsOf e)with
     | none=>rw[hc]at hg;simp at hg
     | some vs =>
      rw[hc]at hg;obtain⟨_,hvl,hvc⟩:=World.cells?_some hc;obtain⟨row,hr,hs⟩:=qow n e vs m _ hp.1 (by simpa using hg);exact⟨row,vs,hvl,hvc,hr,hs⟩
    let rowf:Nat→List AV:=fun i=>if h:i<len then Classical.choose (each i h) else []
    have rowp:∀ i,(h:i<len)→∃ (vs:List Value),vs.length=P.cellsOf e∧(∀ j,j<P.cellsOf e→w.cell? ((a.add (i * P.cellsOf e)).add j)=vs[j]?)∧Rels w (rowf i) vs∧Shp P n e (rowf i):=fun i h=>by
     have:=qFS (each i h);simp only[rowf,dif_pos h];exact this
    let vf:Nat→Nat→Value:=fun i j=>(w.cell? ((a.add (i * P.cellsOf e)).add j)).getD undef
    have hlen:((List.range len).map rowf).length=len:=by simp
    have hgetD:∀ i,i<len→((List.range len).map rowf).getD i []=rowf i:=fun i hi=>by
     rw[qGo,qGw,List.getElem?_range hi];rfl
    have hcell:∀ i j,i<len→j<P.cellsOf e→w.cell? ((a.add (i * P.cellsOf e)).add j)=some (vf i j):=fun i j hi hj=>by
     obtain⟨vs,h1,h2,_⟩:=rowp i hi;have:=h2 j hj;rw[qF3 (by omega)]at this;simp only[vf,this];rfl
    refine⟨[.lst (P.cellsOf e) ((List.range len).map rowf)],.one ?_,(List.range len).map rowf,by rw[hlen];omega,rfl,fun r hr=>?_⟩
    ·have key:=AVRel.lst (w:=w) (Z:=Old w) noG (P.cellsOf e) ((List.range len).map rowf) (some a) cap vf (by rw[hlen];exact hlc) (fun hne=>?_) (fun i hi=>?_) (fun i j hi hj=>?_)
     ·rw[hlen]at key;exact key
     ·have h0:0<len:=by
       rcases qG6 len with h | h
       ·subst h;simp at hne
       ·exact h
      have hs:a.spot=none:=by
       have:=World.cell?_spot (hcell 0 0 h0 hp.2);simpa [Addr.add]using this
      have hc:∀ i j,i<len→j<P.cellsOf e→w.cell? (a.at (i * P.cellsOf e+j))=some (vf i j):=fun i j hi hj=>by
       have h1:=hcell i j hi hj;have:a.at (i * P.cellsOf e+j)=(a.add (i * P.cellsOf e)).add j:=by
        obtain⟨b,o,s⟩:=a;simp only at hs;subst hs;simp only[Addr.at,Addr.add];split <;> split <;> simp_all <;> omega
       rw[this];exact h1
      rw[hlen];exact⟨a,rfl,fun i j hi hj=>qtN (hc i j hi hj),hs,hc⟩
     ·rw[hlen]at hi;rw[hgetD i hi];obtain⟨vs,h1,_,h3,_⟩:=rowp i hi;rw[h3.1,h1]
     ·rw[hlen]at hi;rw[hgetD i hi];obtain⟨vs,h1,h2,h3,_⟩:=rowp i hi;have:=h3.2 j (by omega);have e:vs.getD j undef=vf i j:=by
       rw[qGo,← h2 j hj]
      rw[e]at this;exact this
    ·obtain⟨i,hi,rfl⟩:=qGt.1 hr;obtain⟨vs,_,_,_,h4⟩:=rowp i (qGg.1 hi);exact h4
  ·rename_i fs ht;obtain⟨xs,m,_,_,hcl,hxl,hget⟩:=DataW.trod_struct ht h;have go:∀ (l:List Field) (off:Nat),(∀ f∈l,∃ x,DataW.trod enc P w 0 spare held m f.type ((cs.drop f.offset).take (P.cellsOf f.type))=some x)→qiJ P (qhw P n) l off cs.length=true→∃ avs,Rels w avs (cs.drop off)∧qp9 (Shp P n) l avs:=by
    intro l
    induction l with
    | nil =>
     intro off _ hf;simp only[qiJ,beq_iff_eq]at hf;rw[hf,List.drop_length];exact⟨[],.nil w,by simp[qp9]⟩
    | cons f r ih =>
     intro off hx hf;simp only[qiJ,Bool.and_eq_true,beq_iff_eq]at hf;obtain⟨⟨h1,h2⟩,h3⟩:=hf;obtain⟨y,hy⟩:=hx f (by simp);rw[h1]at hy;obtain⟨a,ha,hsa⟩:=qow n f.type _ m y h2 hy;obtain⟨b,hb,hsb⟩:=ih (off+P.cellsOf f.type) (fun g hg=>hx g (qHl _ hg)) h3;refine⟨a++b,?_,by simp only[qp9];exact⟨a,b,rfl,hsa,hsb⟩⟩;have e:cs.drop off=(cs.drop off).take (P.cellsOf f.type)++cs.drop (off+P.cellsOf f.type):=by
      rw[← List.drop_drop,qHX]
     rw[e];exact ha.app hb
   have:=go fs.toList 0 (fun f hf=>by
    obtain⟨i,hi,e⟩:=qHY.1 hf;have hi':i<fs.size:=by simpa using hi
    have h1:fs[i]?=some f:=by rw[qHJ hi'];simpa using e
    rw[hget i f h1,qF3 (by omega)];exact⟨_,rfl⟩) (by rw[hcl];exact hp)
   simpa using this
  ·rename_i c e ht;obtain⟨xs,m,_,_,hcl,hxl,hget⟩:=DataW.trod_array ht h;simp only[Bool.and_eq_true,beq_iff_eq]at hp;have go:∀ (r i:Nat),i+r=c→∃ avs,Rels w avs (cs.drop (i * P.cellsOf e))∧qnU (Shp P n e) r avs:=by
    intro r
    induction r with
    | zero =>
     intro i hi;have:i * P.cellsOf e=cs.length:=by rw[hcl,← hp.2];congr 1
     rw[this,List.drop_length];exact⟨[],.nil w,by simp[qnU]⟩
    | succ r ih =>
     intro i hi;have hg:=hget i (by omega);rw[qF3 (by omega)]at hg;obtain⟨a,ha,hsa⟩:=qow n e _ m _ hp.1 hg;obtain⟨b,hb,hsb⟩:=ih (i+1) (by omega);refine⟨a++b,?_,by simp only[qnU];exact⟨a,b,rfl,hsa,hsb⟩⟩;have e:cs.drop (i * P.cellsOf e)=(cs.drop (i * P.cellsOf e)).take (P.cellsOf e)++cs.drop ((i+1) * P.cellsOf e):=by
      rw[qFW,qGd,← List.drop_drop,qHX]
     rw[e];exact ha.app hb
   have:=go c 0 (by omega);simpa using this
  ·cases hp
end Go.Av
end
section
namespace Go.Av
open Go.RowKit Go.ChangeShapes Go.WideShapes Go.ChangeAt
variable {H:Type} {enc:TypeId×Value→H} {P:Program} {w:World} {spare:Nat→Bool} {held:Bool}
theorem open_st {r:Reach} {base n:Nat} {t:TypeId} {fs:Array Field} {v:Value} {d:DataW H} {ps:List MemPlace} (ht:P.underlying t=some (.struct fs)) (hp:qhw P n t=true) (hv:Value.okWide P w r base t v)
  (hd:DataW.Trod enc P w 0 spare held t v d ps):∃ avs,AVRel w (Old w) noG (.agg avs) v∧Shp P n t avs:=by
 obtain⟨cs,rfl,_⟩:=okWide_struct ht hv;obtain⟨fuel,hf⟩:=hd;obtain⟨avs,hr,hs⟩:=qow n t _ fuel _ hp hf;refine⟨avs,.agg _ _ _ ?_ fun j hj=>?_,hs⟩
 ·have:=hr.1;simpa [Value.cells]using this.symm
 ·have h1:=hr.1;simp only[Value.cells,qGn]at h1;have:=hr.2 j (by simp[Value.cells];omega);simpa [Value.cells,qF1,qGo]using this
end Go.Av
end
section
namespace Go.Av.F
open Go Go.Av
open Go.Proofs Go.Proofs.Tryz
attribute [-simp] qdQ hdS qao qae qap
attribute [local simp] tt3 tt4 tt9 tt5 qcp qqa qmU
def qai (s:List UInt8):List AV:=[.str s]
def qas (ls:List (List UInt8)):Ob:=⟨1,ls.map qai⟩
theorem qaO (ls:List (List UInt8)):clR (ls.map qai)=true:=by simp[clR,qai]
@[simp] theorem qCe (ls:List (List UInt8)):(qas ls).sz=1:=rfl
@[simp] theorem qDK (bs:List UInt8) (p:Int):(qAw bs p).sz=2:=rfl
attribute [simp] qaO
end Go.Av.F
end
section
namespace Go.Av.F
open Go Go.Av
open Go.Proofs Go.Proofs.Tryz
attribute [-simp] qdQ hdS qao qae qap
attribute [local simp] tt3 tt4 tt9 tt5 qcp qdc qcW qcV qdb
structure BS where
 name:List UInt8
 kind:Int
 frm:List UInt8
 bl:List (List UInt8)
deriving DecidableEq,Inhabited
def BS.row (b:BS):List AV:=.str b.name::.int .i64 b.kind::.str b.frm::b.bl.map .str
def atP (bs:List BS) (name:List UInt8):Nat:=(bs.takeWhile fun b=>Op.bytesLess b.name name).length
def atB (bs:List BS) (name:List UInt8):Bool:=match bs[atP bs name]? with
 | some b=>b.name == name
 | none=>false
def bk (bs:List BS):AV:=.agg [.lst 11 (bs.map BS.row)]
theorem qcs {α:Type} (p:α→Bool):∀ (l:List α) (i:Nat) (x:α),(∀ j,j<i→∀ y,l[j]?=some y→p y=true)→l[i]?=some x→i≤(l.takeWhile p).length∧(p x=false→(l.takeWhile p).length=i)
 | [],i,x,h,hx=>by simp at hx
 | a::r,0,x,h,hx=>by
  simp only[qF5,qFQ]at hx;subst hx;refine⟨by omega,fun hp=>by simp[List.takeWhile,hp]⟩
 | a::r,i+1,x,h,hx=>by
  have ha:p a=true:=h 0 (by omega) a (by simp);obtain⟨h1,h2⟩:=qcs p r i x (fun j hj y hy=>h (j+1) (by omega) y (by simpa using hy)) (by simpa using hx);refine⟨by simp[List.takeWhile,ha];omega,fun hp=>by simp[List.takeWhile,ha,h2 hp]⟩
theorem qel {α:Type} (p:α→Bool):∀ (l:List α),(∀ x∈l,p x=true)→l.takeWhile p=l
 | [],_=>rfl
 | a::r,h=>by simp[List.takeWhile,h a (by simp)];exact qel p r fun x hx=>h x (by simp[hx])
theorem atC (bs:List BS) (name:List UInt8) (hl:bs.length<2000000):ACall Go.Proofs.Tryz.prog 102 [bk bs,.str name] [] (fun r L'=>r=.tup [.int .i64 (atP bs name),.bool (atB bs name)]∧L'=[]):=by
 refine acx func102 [(4,[zI 0,zI 1,zI 2,zJ 3 [2] [],zI 4,zI 5,zI 6,zI 7,zJ 8 [2] [],zJ 9 [] [2],zI 10,zI 11,zI 12,zJ 13 [] [2],zI 14,zI 15,zJ 16 [] [2],zI 17])] ntmps102 rfl rfl rfl ?_;simp[bk];refine qaR (X:=Nat) [1,2,6] (fun i=>⟨mkT [(1,.str name),(2,.ptr 2 0 0),(6,.int .i64 i)],qaQ [(2,⟨1,[[.lst 11 (bs.map BS.row)]]⟩)],Us.of [2]⟩) (fun i=>bs.length-i) (fun i=>i≤bs.length∧∀ j,j<i→∀ y,bs[j]?=some y→Op.bytesLess y.name name=true) 0 ⟨by simp,[(2,2)],by simp[qae],by simp[qao,qah]⟩ ?_;rintro i ⟨hi,ha⟩
 skip
 by_cases h1:i<bs.length
 ·obtain⟨b,e0⟩:∃ b,bs[i]=b:=⟨_,rfl⟩;have e1:bs[i]?=some b:=by rw[← e0];exact qF3 h1
  have e2:IntKind.i64.wrap ((i:Int)+1)=((i+1:Nat):Int):=by rw[qax _ (by omega)];omega
  have ht:=qcs (fun b:BS=>Op.bytesLess b.name name) bs i b (fun j hj y hy=>by simpa using ha j hj y hy) e1;cases h2:Op.bytesLess b.name name with
  | true =>
   simp[h1,e0,e1,BS.row,h2,e2];refine qau (i+1) (by omega) ⟨by omega,fun j hj y hy=>?_⟩ [(2,2)] (by simp[qae]) (by simp[qao,qah]);by_cases hji:j=i
   ·subst hji;rw[e1]at hy;injection hy with hy;subst hy;exact h2
   ·exact ha j (by omega) y hy
  | false =>
   have ep:atP bs name=i:=ht.2 (by simpa using h2);simp[h1,e0,e1,BS.row,h2,ep,atB]
 ·have hi':i=bs.length:=by omega
  have ep:atP bs name=bs.length:=by
   unfold atP;rw[qel _ _ (fun b hb=>by
    obtain⟨j,hj,e⟩:=qHY.1 hb;have:=ha j (by omega) b (by rw[← e];exact qF3 hj);simpa using this)]
  subst hi';simp[h1,ep,atB]
end Go.Av.F
end
section
namespace Go.Av.F
open Go Go.Av
open Go.Proofs Go.Proofs.Tryz
attribute [-simp] qdQ hdS qao qae qap
attribute [local simp] tt3 tt4 tt9 tt5 qcp qdc qcW qcV qdb
@[simp] theorem qFH (b:BS):(BS.row b)[0]?=some (.str b.name):=rfl
@[simp] theorem qFG (b:BS):(BS.row b)[1]?=some (.int .i64 b.kind):=rfl
@[simp] theorem qFF (b:BS):(BS.row b)[2]?=some (.str b.frm):=rfl
@[simp] theorem qFn (b:BS) (h:0<(BS.row b).length):(BS.row b)[0]'h=.str b.name:=rfl
@[simp] theorem qFm (b:BS) (h:1<(BS.row b).length):(BS.row b)[1]'h=.int .i64 b.kind:=rfl
@[simp] theorem qFl (b:BS) (h:2<(BS.row b).length):(BS.row b)[2]'h=.str b.frm:=rfl
@[simp] theorem qFE (b:BS):(BS.row b).drop 3=b.bl.map .str:=rfl
theorem qan (b:BS) (h:b.bl.length=8):(BS.row b).length=11:=by simp[BS.row,h]
theorem qbO (b:BS) (h:b.bl.length=8):(BS.row b).take 11=BS.row b:=qGh (by rw[qan b h];omega)
theorem qhW (b:BS) (h:b.bl.length=8):(BS.row b).drop 11=[]:=qGb (by rw[qan b h];omega)
theorem qoc (b:BS):clL (BS.row b)=true:=by
 have:∀ l:List (List UInt8),clL (l.map .str)=true:=fun l=>by induction l <;> simp_all
 simp[BS.row,this]
theorem qnb (b:BS):(BS.row b).all qdn=true:=by simp[BS.row,qdn]
theorem qrh (ρ:Nat→Option Plc) (b:BS):qb6 ρ (BS.row b)=BS.row b:=by
 have:∀ l:List (List UInt8),qb6 ρ (l.map .str)=l.map .str:=fun l=>by induction l <;> simp_all
 simp[BS.row,this]
@[simp] theorem qCg (ρ:Nat→Option Plc) (b:BS):qb6 ρ (BS.row b)=BS.row b:=qrh ρ b
@[simp] theorem qDA (b:BS):clL (BS.row b)=true:=qoc b
theorem qeq (b:BS):∀ x∈BS.row b,qdn x=true:=fun x hx=>qGf.1 (qnb b) x hx
def qbg (bs:List BS):Nat→BS→Bool
 | 0,_=>false
 | n+1,s=>if s.frm=[] then s.kind == 1 else
   match bs[atP bs s.frm]? with
   | some t=>if atB bs s.frm=true∧t.kind≠s.kind then qbg bs n t else false
   | none=>false
theorem qAn (bs:List BS) (s:BS) (hl:bs.length<2000000) (hB:∀ b∈bs,b.bl.length=8) (hs:s.bl.length=8):ACall Go.Proofs.Tryz.prog 247 [bk bs,.agg (BS.row s)] [] (fun r L'=>r=.bool (qbg bs (bs.length+1) s)∧L'=[]):=by
 obtain⟨res,hres⟩:∃ res,qbg bs (bs.length+1) s=res:=⟨_,rfl⟩;rw[hres];refine acx func247 [(7,[zI 0,zI 1,zI 2,zI 3,zJ 4 [2] [],zJ 5 [] [2],zI 6,zI 7,zI 8,zJ 9 [] [2],zJ 10 [3] [2],zI 11,zI 12])] ntmps247 rfl rfl rfl ?_;simp[bk,qan _ hs];refine qaR (X:=Nat×BS) [2,3,5] (fun x=>⟨mkT [(2,.ptr 2 0 0),(3,.ptr 3 0 0),(5,.int .i64 x.1)],qaQ [(2,⟨1,[[.lst 11 (bs.map BS.row)]]⟩),(3,⟨11,[BS.row x.2]⟩)],Us.of [2,3]⟩) (fun x=>bs.length+1-x.1)
  (fun x=>x.1≤bs.length+1∧x.2.bl.length=8∧res=qbg bs (bs.length+1-x.1) x.2) (0,s) ⟨⟨by simp,hs,hres.symm⟩,[(2,2),(3,3)],by simp[qae],by simp[qao,qah]⟩ ?_
 rintro⟨i,t⟩ ⟨hi,ht,he⟩;simp only at hi ht he
 skip
 by_cases h1:i≤bs.length
 ·obtain⟨n,hn⟩:∃ n,bs.length+1-i=n+1:=⟨bs.length-i,by omega⟩;have e2:IntKind.i64.wrap ((i:Int)+1)=((i+1:Nat):Int):=by rw[qax _ (by omega)];omega
  rw[hn]at he;by_cases h2:t.frm=[]
  ·simp[h1,h2,he,qbg]
  ·simp[h1,h2];refine qaj (by kernel_rfl) (atC bs t.frm hl) (by simp[bk]) (by simp) ?_;cases h3:atB bs t.frm with
   | false =>
    have:res=false:=by
     rw[he];simp only[qbg,h2,if_false,h3];split <;> simp
    simp[this]
   | true =>
    obtain⟨u,e1⟩:∃ u,bs[atP bs t.frm]?=some u:=by
     unfold atB at h3;split at h3
     ·rename_i u hu;exact⟨u,hu⟩
     ·cases h3
    have hlt:atP bs t.frm<bs.length:=(qGy.1 e1).1;have hu:u.bl.length=8:=hB u (qHT e1);obtain⟨m,hm⟩:∃ m,atP bs t.frm=m:=⟨_,rfl⟩;rw[hm]at e1 hlt;have e0:bs[m]=u:=by rw[qF3 hlt]at e1;injection e1
    by_cases h4:u.kind=t.kind
    ·have:res=false:=by
      rw[he];simp[qbg,h2,h3,hm,e1,h4]
     simp[hm,hlt,e0,e1,h4,this,qan _ hu,qan _ ht]
    ·have e5:res=qbg bs n u:=by
      rw[he];simp[qbg,h2,h3,hm,e1,h4]
     simp[hm,hlt,e0,e1,h4,qan _ hu,qan _ ht,qbO _ hu,qhW _ ht,qeq,e2];refine⟨qeq u,?_⟩;refine qau (i+1,u) (by simp only;omega) ⟨by simp only;omega,hu,?_⟩ [(2,2),(3,3)] (by simp[qae]) (by simp[qao,qah]);simp only;rw[e5];congr 1;omega
 ·have:res=false:=by rw[he,show bs.length+1-i=0 by omega];rfl
  simp[h1,this]
end Go.Av.F
end
