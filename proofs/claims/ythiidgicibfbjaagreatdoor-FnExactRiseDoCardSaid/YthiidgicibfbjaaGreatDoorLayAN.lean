/- Lemmas for the proof, no statement of the seat; no conditions. -/
import Derived.Test.YthiidgicibfbjaaGreatDoorLayAM
import Derived.Test.YthiidgicibfbjaaGreatDoorProg
set_option linter.unusedSimpArgs false
set_option linter.unusedVariables false
set_option linter.unnecessarySimpa false
set_option maxRecDepth 100000
section
namespace Go.Av.F
open Go Go.Av
open Go.Proofs Go.Proofs.Tryz
attribute [-simp] qdL hdS qat qag qak
attribute [local simp] qpO qyD qBO
attribute [local simp] tt3 tt4 tt9 qpt qyC qxV qvj qmt qsh
theorem qft (p:PT):ACall Go.Proofs.Tryz.prog 230 [.agg p.row,.agg p.row] [] (fun r L'=>r=.bool true∧L'=[]):=by
 refine acx func230 [] ntmps230 rfl rfl rfl ?_;simp[PT.row]
theorem qAt (p:DE):ACall Go.Proofs.Tryz.prog 229 [.agg p.row,.agg p.row] [] (fun r L'=>r=.bool true∧L'=[]):=by
 refine acx func229 [] ntmps229 rfl rfl rfl ?_;simp[DE.row]
theorem qxm (l:List PT) (hl:l.length≤1048576):ACall Go.Proofs.Tryz.prog 122 [.lst 3 (l.map PT.row),.lst 3 (l.map PT.row)] [] (fun r L'=>r=.bool true∧L'=[]):=by
 refine acx func122 [] ntmps122 rfl rfl rfl ?_;simp;refine qbe (X:=Nat) [0,1,5] (fun i=>⟨mkT [(0,.lst 3 (l.map PT.row)),(1,.lst 3 (l.map PT.row)),(5,.int .i64 i)],qaP [],Us.of []⟩) (fun i=>l.length-i) (fun i=>i≤l.length) 0 ⟨by simp,[],by simp[qag],by simp[qat]⟩ ?_;intro i hi;by_cases h1:i<l.length
 ·obtain⟨x,e0⟩:∃ x,l[i]=x:=⟨_,rfl⟩;have e1:l[i]?=some x:=by rw[← e0];exact qEv h1
  have e2:IntKind.i64.wrap ((i:Int)+1)=((i+1:Nat):Int):=by rw[qaL _ (by omega)];omega
  have hx:x.row.length=3:=rfl;have hx2:x.row.take 3=x.row:=rfl;simp[h1,e0,e1,hx,hx2];refine qar (by kernel_rfl) (qft x) (by simp[qCp]) (by simp) ?_;simp[e2];exact qaN (i+1) (by omega) (by omega) [] (by simp[qag]) (by simp[qat])
 ·have:i=l.length:=by omega
  subst this;simp
theorem qxp (l:List DE) (hl:l.length≤1048576):ACall Go.Proofs.Tryz.prog 121 [.lst 3 (l.map DE.row),.lst 3 (l.map DE.row)] [] (fun r L'=>r=.bool true∧L'=[]):=by
 refine acx func121 [] ntmps121 rfl rfl rfl ?_;simp;refine qbe (X:=Nat) [0,1,5] (fun i=>⟨mkT [(0,.lst 3 (l.map DE.row)),(1,.lst 3 (l.map DE.row)),(5,.int .i64 i)],qaP [],Us.of []⟩) (fun i=>l.length-i) (fun i=>i≤l.length) 0 ⟨by simp,[],by simp[qag],by simp[qat]⟩ ?_;intro i hi;by_cases h1:i<l.length
 ·obtain⟨x,e0⟩:∃ x,l[i]=x:=⟨_,rfl⟩;have e1:l[i]?=some x:=by rw[← e0];exact qEv h1
  have e2:IntKind.i64.wrap ((i:Int)+1)=((i+1:Nat):Int):=by rw[qaL _ (by omega)];omega
  have hx:x.row.length=3:=rfl;have hx2:x.row.take 3=x.row:=rfl;simp[h1,e0,e1,hx,hx2];refine qar (by kernel_rfl) (qAt x) (by simp[qC8]) (by simp) ?_;simp[e2];exact qaN (i+1) (by omega) (by omega) [] (by simp[qag]) (by simp[qat])
 ·have:i=l.length:=by omega
  subst this;simp
theorem qxo (l:List Int) (hl:l.length≤1048576):ACall Go.Proofs.Tryz.prog 15 [.lst 1 (l.map qaf),.lst 1 (l.map qaf)] [] (fun r L'=>r=.bool true∧L'=[]):=by
 refine acx func15 [] ntmps15 rfl rfl rfl ?_;simp;refine qbe (X:=Nat) [0,1,5] (fun i=>⟨mkT [(0,.lst 1 (l.map qaf)),(1,.lst 1 (l.map qaf)),(5,.int .i64 i)],qaP [],Us.of []⟩) (fun i=>l.length-i) (fun i=>i≤l.length) 0 ⟨by simp,[],by simp[qag],by simp[qat]⟩ ?_;intro i hi;by_cases h1:i<l.length
 ·obtain⟨x,e0⟩:∃ x,l[i]=x:=⟨_,rfl⟩;have e1:l[i]?=some x:=by rw[← e0];exact qEv h1
  have e2:IntKind.i64.wrap ((i:Int)+1)=((i+1:Nat):Int):=by rw[qaL _ (by omega)];omega
  simp[h1,e0,e1,qaf,e2];exact qaN (i+1) (by omega) (by omega) [] (by simp[qag]) (by simp[qat,qaf])
 ·have:i=l.length:=by omega
  subst this;simp
def qkD (l:List PT) (i:Nat):S :=
 ⟨mkT [(2,.ptr 2 0 0),(3,.ptr 3 0 0),(5,.int .i64 i)],qaP [(2,⟨24,[l.flatMap PT.row]⟩),(3,⟨24,[l.flatMap PT.row]⟩)],Us.of [2,3]⟩
theorem qC4 (p0 p1 p2 p3 p4 p5 p6 p7:PT):ACall Go.Proofs.Tryz.prog 299 [.agg ([p0,p1,p2,p3,p4,p5,p6,p7].flatMap PT.row),.agg ([p0,p1,p2,p3,p4,p5,p6,p7].flatMap PT.row)] [] (fun r L'=>r=.bool true∧L'=[]):=by
 refine acx func299 [(4,[zI 0,zI 1,zJ 2 [2] [],zJ 3 [] [2],zJ 4 [] [2],zJ 5 [3] [2],zI 6,zI 7])] ntmps299 rfl rfl rfl ?_;simp[PT.row];refine qbe (X:=Nat) [2,3,5] (qkD [p0,p1,p2,p3,p4,p5,p6,p7]) (fun i=>8-i) (fun i=>i≤8) 0 ⟨by simp,[(2,2),(3,3)],by simp[qag],by simp[qat,qah,qkD,PT.row]⟩ ?_;intro i hi;have hc:i=0∨i=1∨i=2∨i=3∨i=4∨i=5∨i=6∨i=7∨i=8:=by omega
 rcases hc with rfl | rfl | rfl | rfl | rfl | rfl | rfl | rfl | rfl
 ·simp[qkD,PT.row];refine qar (by kernel_rfl) (qft p0) (by simp[PT.row]) (by simp) ?_;have w1:IntKind.i64.wrap 1=1:=by decide
  simp[PT.row,w1];exact qaN 1 (by omega) (by omega) [(2,2),(3,3)] (by simp[qag]) (by simp[qat,qah,qkD,PT.row])
 ·simp[qkD,PT.row];refine qar (by kernel_rfl) (qft p1) (by simp[PT.row]) (by simp) ?_;have w2:IntKind.i64.wrap 2=2:=by decide
  simp[PT.row,w2];exact qaN 2 (by omega) (by omega) [(2,2),(3,3)] (by simp[qag]) (by simp[qat,qah,qkD,PT.row])
 ·simp[qkD,PT.row];refine qar (by kernel_rfl) (qft p2) (by simp[PT.row]) (by simp) ?_;have w3:IntKind.i64.wrap 3=3:=by decide
  simp[PT.row,w3];exact qaN 3 (by omega) (by omega) [(2,2),(3,3)] (by simp[qag]) (by simp[qat,qah,qkD,PT.row])
 ·simp[qkD,PT.row];refine qar (by kernel_rfl) (qft p3) (by simp[PT.row]) (by simp) ?_;have w4:IntKind.i64.wrap 4=4:=by decide
  simp[PT.row,w4];exact qaN 4 (by omega) (by omega) [(2,2),(3,3)] (by simp[qag]) (by simp[qat,qah,qkD,PT.row])
 ·simp[qkD,PT.row];refine qar (by kernel_rfl) (qft p4) (by simp[PT.row]) (by simp) ?_;have w5:IntKind.i64.wrap 5=5:=by decide
  simp[PT.row,w5];exact qaN 5 (by omega) (by omega) [(2,2),(3,3)] (by simp[qag]) (by simp[qat,qah,qkD,PT.row])
 ·simp[qkD,PT.row];refine qar (by kernel_rfl) (qft p5) (by simp[PT.row]) (by simp) ?_;have w6:IntKind.i64.wrap 6=6:=by decide
  simp[PT.row,w6];exact qaN 6 (by omega) (by omega) [(2,2),(3,3)] (by simp[qag]) (by simp[qat,qah,qkD,PT.row])
 ·simp[qkD,PT.row];refine qar (by kernel_rfl) (qft p6) (by simp[PT.row]) (by simp) ?_;have w7:IntKind.i64.wrap 7=7:=by decide
  simp[PT.row,w7];exact qaN 7 (by omega) (by omega) [(2,2),(3,3)] (by simp[qag]) (by simp[qat,qah,qkD,PT.row])
 ·simp[qkD,PT.row];refine qar (by kernel_rfl) (qft p7) (by simp[PT.row]) (by simp) ?_;have w8:IntKind.i64.wrap 8=8:=by decide
  simp[PT.row,w8];exact qaN 8 (by omega) (by omega) [(2,2),(3,3)] (by simp[qag]) (by simp[qat,qah,qkD,PT.row])
 ·simp[qkD,PT.row]
theorem qC2 (s:CS) (h8:s.map.length=8):ACall Go.Proofs.Tryz.prog 228 [.agg s.row,.agg s.row] [] (fun r L'=>r=.bool true∧L'=[]):=by
 obtain⟨nm,kd,fr,mp,hm,dt⟩:=s;simp only at h8;obtain⟨p0,p1,p2,p3,p4,p5,p6,p7,rfl⟩:=qxq mp h8;refine acx func228 [] ntmps228 rfl rfl rfl ?_;simp[CS.row,PT.row];refine qar (by kernel_rfl) (qC4 p0 p1 p2 p3 p4 p5 p6 p7) (by simp[PT.row]) (by simp) ?_;simp[PT.row];refine qar (by kernel_rfl) (qft hm) (by simp[PT.row]) (by simp) ?_;simp[PT.row]
theorem qAu (l:List CS) (hl:l.length≤1048576) (h8:∀ s∈l,s.map.length=8):ACall Go.Proofs.Tryz.prog 120 [.lst 31 (l.map CS.row),.lst 31 (l.map CS.row)] [] (fun r L'=>r=.bool true∧L'=[]):=by
 refine acx func120 [] ntmps120 rfl rfl rfl ?_;simp;refine qbe (X:=Nat) [0,1,5] (fun i=>⟨mkT [(0,.lst 31 (l.map CS.row)),(1,.lst 31 (l.map CS.row)),(5,.int .i64 i)],qaP [],Us.of []⟩) (fun i=>l.length-i) (fun i=>i≤l.length) 0 ⟨by simp,[],by simp[qag],by simp[qat]⟩ ?_;intro i hi;by_cases h1:i<l.length
 ·obtain⟨x,e0⟩:∃ x,l[i]=x:=⟨_,rfl⟩;have e1:l[i]?=some x:=by rw[← e0];exact qEv h1
  have e2:IntKind.i64.wrap ((i:Int)+1)=((i+1:Nat):Int):=by rw[qaL _ (by omega)];omega
  have hx8:=h8 x (qGk e1);simp[h1,e0,e1,qaY x hx8,qd0 x hx8];refine qar (by kernel_rfl) (qC2 x hx8) (by simp[qa5]) (by simp) ?_;simp[e2];exact qaN (i+1) (by omega) (by omega) [] (by simp[qag]) (by simp[qat])
 ·have:i=l.length:=by omega
  subst this;simp
end Go.Av.F
end
section
namespace Go.Av.F
open Go Go.Av
open Go.Proofs Go.Proofs.Tryz
attribute [-simp] qdL hdS qat qag qak
attribute [local simp] tt3 tt4 tt9 tt5 qcn qc5 qcR qcQ qc4 qdH qmk qpt qvk
structure TR where
 base:List BS
 since:List BO
 sure:Int
def TR.row (t:TR):List AV:=[.lst 11 (t.base.map BS.row),.lst 5 (t.since.map BO.row),.int .i64 t.sure]
def qxP (b:List BS):List AV:=[.lst 11 (b.map BS.row)]
theorem qul (o:BO):(BO.row o).length=5:=rfl
theorem qqR (o:BO):(BO.row o).take 5=BO.row o:=rfl
attribute [local simp] qul qqR
end Go.Av.F
end
section
namespace Go.Av.F
open Go Go.Av
open Go.Proofs Go.Proofs.Tryz
attribute [-simp] qdL hdS qat qag qak
attribute [local simp] tt3 tt4 tt9 tt5 qcn qc5 qcR qcQ qc4 qdH qmk qpt qvk qul qqR
def qwq (l:List BO):Ob:=⟨5,l.map BO.row⟩
theorem qzF (l:List BO):(qwq l).sz=5:=rfl
theorem qwp (l:List BO):(qwq l).els=l.map BO.row:=rfl
attribute [local simp] qzF qwp
def zTr:Ob:=⟨3,[[.nils,.nils,.int .i64 0]]⟩
def tA (bs:List UInt8) (x:Int×List BS):S :=
 ⟨mkT [(0,.ptr 1000 0 0),(2,.ptr 2 0 0),(3,.ptr 3 0 0),(4,.ptr 4 0 0)],qaP [(1000,qzv bs x.1),(2,zTr),(3,⟨3,[[.lst 11 (x.2.map BS.row),.nils,.int .i64 0]]⟩),(4,⟨1,[qxP x.2]⟩)],Us.of [1000,1000,2,3,4]⟩
def tN (bs:List UInt8) (b:List BS) (sure:Int) (q:Int) (i:Int):S :=
 ⟨mkT [(0,.ptr 1000 0 0),(2,.ptr 2 0 0),(3,.ptr 3 0 0),(4,.ptr 4 0 0),(5,.int .i64 i)],qaP [(1000,qzv bs q),(2,zTr),(3,⟨3,[[.lst 11 (b.map BS.row),.nils,.int .i64 sure]]⟩),(4,⟨1,[qxP b]⟩)],Us.of [1000,1000,2,3,4]⟩
def tC (bs:List UInt8) (b:List BS) (sure:Int) (ops:List BO) (q:Int) (i:Int):S :=
 ⟨mkT [(0,.ptr 1000 0 0),(2,.ptr 2 0 0),(3,.ptr 3 0 0),(4,.ptr 4 0 0),(5,.int .i64 i)],qaP [(1000,qzv bs q),(2,zTr),(3,⟨3,[[.lst 11 (b.map BS.row),.sl 901 0 ops.length,.int .i64 sure]]⟩),(4,⟨1,[qxP b]⟩),(901,qwq ops)],Us.of [1000,1000,2,3,4,901]⟩
def tS (bs:List UInt8) (b:List BS) (sure:Int) (x:Int×Int×List BO):S:=if x.2.2=[] then tN bs b sure x.2.1 x.1 else tC bs b sure x.2.2 x.2.1 x.1
end Go.Av.F
end
section
namespace Go.Av.F
open Go Go.Av
open Go.Proofs Go.Proofs.Tryz
attribute [-simp] qdL hdS qat qag qak
attribute [local simp] tt3 tt4 tt9 tt5 qcn qc5 qcR qcQ qc4 qdH qmk qpt
theorem qiy (x:Int):qz5 [.int .u8 (IntKind.u8.wrap x)]=true:=by
 have h:IntKind.u8.wrap x=x % 256:=rfl;simp[qz5,h]
 try omega
end Go.Av.F
end
section
namespace Go.Av.F
open Go Go.Av
open Go.Proofs Go.Proofs.Tryz
attribute [-simp] qdL hdS qat qag qak
attribute [local simp] tt3 tt4 tt9 tt5 qcn qc5 qcR qcQ qc4 qdH qmk qpt
def BkG (bs:List BS):Prop:=∀ b∈bs,b.bl.length=8∧b.name.length≤24∧b.frm.length≤24
end Go.Av.F
end
section
namespace Go.Av.F
open Go Go.Av
open Go.Proofs Go.Proofs.Tryz
attribute [-simp] qdL hdS qat qag qak
attribute [local simp] tt3 tt4 tt9 tt5 qcn qc5 qcR qcQ qc4 qdH qmk qpt
@[simp] theorem qzk (t:BS):(BS.row t).drop 1=.int .i64 t.kind::.str t.frm::t.bl.map .str:=rfl
@[simp] theorem qzj (t:BS):(BS.row t).drop 2=.str t.frm::t.bl.map .str:=rfl
@[simp] theorem qzi (t:BS):(BS.row t).take 1=[.str t.name]:=rfl
@[simp] theorem qzh (t:BS):(BS.row t).take 2=[.str t.name,.int .i64 t.kind]:=rfl
@[simp] theorem qzg (t:BS):(BS.row t).take 3=[.str t.name,.int .i64 t.kind,.str t.frm]:=rfl
end Go.Av.F
end
section
namespace Go.Av.F
open Go Go.Av
open Go.Proofs Go.Proofs.Tryz
attribute [-simp] qdL hdS qat qag qak
attribute [local simp] tt3 tt4 tt9 tt5 qcn qc5 qcR qcQ qc4 qdH qmk qpt
end Go.Av.F
end
section
namespace Go.Av.F
open Go Go.Av
open Go.Proofs Go.Proofs.Tryz
attribute [-simp] qdL hdS qat qag qak
def qx9 (bs:List BS) (o:BO):List BS×Int:=if qbd bs=true then doB bs o else ([],5)
theorem qwP (bs:List BS) (hb:BkG bs) (hl:bs.length<1500000):ACall Go.Proofs.Tryz.prog 181 [bk bs] [] (fun r L'=>r=.bool (qbd bs)∧L'=[]) :=
 qsV bs ▸ qkn bs (by omega) (fun b h=>(hb b h).1) (fun b h=>by have:=(hb b h).2.1;omega)
theorem qvJ (bs:List BS) (hb:BkG bs) (hl:bs.length<1500000):ACall Go.Proofs.Tryz.prog 161 [bk bs] [] (fun r L'=>r=.bool (qbd bs)∧L'=[]) :=
 qrY bs (by omega) (fun b h=>(hb b h).1) (fun b h=>by have:=(hb b h).2.1;omega)
end Go.Av.F
end
