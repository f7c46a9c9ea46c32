/- Lemmas for the proof, no statement of the seat; no conditions. -/
import Derived.Test.YthiidgicibfbjaaGreatDoorLayAM
import Derived.Test.YthiidgicibfbjaaGreatDoorProg
set_option linter.unusedSimpArgs false
set_option linter.unusedVariables false
set_option linter.unnecessarySimpa false
set_option maxRecDepth 100000
set_option maxHeartbeats 400000
section
namespace Go.Av.F
open Go Go.Av
open Go.Proofs Go.Proofs.Tryz
attribute [-simp] qdJ hdS qax qai qaq
attribute [local simp] tt3 tt4 tt9 tt5 qcl qc5 qcQ qcP qc4 qdF qmd qpf qu1
structure TR where
 base:List BS
 since:List BO
 sure:Int
def TR.row (t:TR):List AV:=[.lst 11 (t.base.map BS.row),.lst 5 (t.since.map BO.row),.int .i64 t.sure]
def qxa (b:List BS):List AV:=[.lst 11 (b.map BS.row)]
theorem qt1 (o:BO):(BO.row o).length=5:=rfl
theorem qqD (o:BO):(BO.row o).take 5=BO.row o:=rfl
attribute [local simp] qt1 qqD
end Go.Av.F
end
section
namespace Go.Av.F
open Go Go.Av
open Go.Proofs Go.Proofs.Tryz
attribute [-simp] qdJ hdS qax qai qaq
attribute [local simp] tt3 tt4 tt9 tt5 qcl qc5 qcQ qcP qc4 qdF qmd qpf qu1 qt1 qqD
def qv6 (l:List BO):Ob:=⟨5,l.map BO.row⟩
theorem qyT (l:List BO):(qv6 l).sz=5:=rfl
theorem qv5 (l:List BO):(qv6 l).els=l.map BO.row:=rfl
attribute [local simp] qyT qv5
def zTr:Ob:=⟨3,[[.nils,.nils,.int .i64 0]]⟩
def tA (bs:List UInt8) (x:Int×List BS):S :=
 ⟨mkT [(0,.ptr 1000 0 0),(2,.ptr 2 0 0),(3,.ptr 3 0 0),(4,.ptr 4 0 0)],qaW [(1000,qyK bs x.1),(2,zTr),(3,⟨3,[[.lst 11 (x.2.map BS.row),.nils,.int .i64 0]]⟩),(4,⟨1,[qxa x.2]⟩)],Us.of [1000,1000,2,3,4]⟩
def tN (bs:List UInt8) (b:List BS) (sure:Int) (q:Int) (i:Int):S :=
 ⟨mkT [(0,.ptr 1000 0 0),(2,.ptr 2 0 0),(3,.ptr 3 0 0),(4,.ptr 4 0 0),(5,.int .i64 i)],qaW [(1000,qyK bs q),(2,zTr),(3,⟨3,[[.lst 11 (b.map BS.row),.nils,.int .i64 sure]]⟩),(4,⟨1,[qxa b]⟩)],Us.of [1000,1000,2,3,4]⟩
def tC (bs:List UInt8) (b:List BS) (sure:Int) (ops:List BO) (q:Int) (i:Int):S :=
 ⟨mkT [(0,.ptr 1000 0 0),(2,.ptr 2 0 0),(3,.ptr 3 0 0),(4,.ptr 4 0 0),(5,.int .i64 i)],qaW [(1000,qyK bs q),(2,zTr),(3,⟨3,[[.lst 11 (b.map BS.row),.sl 901 0 ops.length,.int .i64 sure]]⟩),(4,⟨1,[qxa b]⟩),(901,qv6 ops)],Us.of [1000,1000,2,3,4,901]⟩
def tS (bs:List UInt8) (b:List BS) (sure:Int) (x:Int×Int×List BO):S:=if x.2.2=[] then tN bs b sure x.2.1 x.1 else tC bs b sure x.2.2 x.2.1 x.1
end Go.Av.F
end
section
namespace Go.Av.F
open Go Go.Av
open Go.Proofs Go.Proofs.Tryz
attribute [-simp] qdJ hdS qax qai qaq
attribute [local simp] tt3 tt4 tt9 tt5 qcl qc5 qcQ qcP qc4 qdF qmd qpf
theorem qly (x:Int):qzk [.int .u8 (IntKind.u8.wrap x)]=true:=by
 have h:IntKind.u8.wrap x=x % 256:=rfl;simp[qzk,h]
 try omega
end Go.Av.F
end
section
namespace Go.Av.F
open Go Go.Av
open Go.Proofs Go.Proofs.Tryz
attribute [-simp] qdJ hdS qax qai qaq
attribute [local simp] tt3 tt4 tt9 tt5 qcl qc5 qcQ qcP qc4 qdF qmd qpf
def BkG (bs:List BS):Prop:=∀ b∈bs,b.bl.length=8∧b.name.length≤24∧b.frm.length≤24
end Go.Av.F
end
section
namespace Go.Av.F
open Go Go.Av
open Go.Proofs Go.Proofs.Tryz
attribute [-simp] qdJ hdS qax qai qaq
attribute [local simp] tt3 tt4 tt9 tt5 qcl qc5 qcQ qcP qc4 qdF qmd qpf
@[simp] theorem qyz (t:BS):(BS.row t).drop 1=.int .i64 t.kind::.str t.frm::t.bl.map .str:=rfl
@[simp] theorem qyy (t:BS):(BS.row t).drop 2=.str t.frm::t.bl.map .str:=rfl
@[simp] theorem qyx (t:BS):(BS.row t).take 1=[.str t.name]:=rfl
@[simp] theorem qyw (t:BS):(BS.row t).take 2=[.str t.name,.int .i64 t.kind]:=rfl
@[simp] theorem qyv (t:BS):(BS.row t).take 3=[.str t.name,.int .i64 t.kind,.str t.frm]:=rfl
end Go.Av.F
end
section
namespace Go.Av.F
open Go Go.Av
open Go.Proofs Go.Proofs.Tryz
attribute [-simp] qdJ hdS qax qai qaq
attribute [local simp] tt3 tt4 tt9 tt5 qcl qc5 qcQ qcP qc4 qdF qmd qpf
end Go.Av.F
end
section
namespace Go.Av.F
open Go Go.Av
open Go.Proofs Go.Proofs.Tryz
attribute [-simp] qdJ hdS qax qai qaq
def qxt (bs:List BS) (o:BO):List BS×Int:=if qbc bs=true then doB bs o else ([],5)
theorem qwm (bs:List BS) (hb:BkG bs) (hl:bs.length<1500000):ACall Go.Proofs.Tryz.prog 181 [bk bs] [] (fun r L'=>r=.bool (qbc bs)∧L'=[]) :=
 qsB bs ▸ qkg bs (by omega) (fun b h=>(hb b h).1) (fun b h=>by have:=(hb b h).2.1;omega)
theorem qvq (bs:List BS) (hb:BkG bs) (hl:bs.length<1500000):ACall Go.Proofs.Tryz.prog 161 [bk bs] [] (fun r L'=>r=.bool (qbc bs)∧L'=[]) :=
 qrH bs (by omega) (fun b h=>(hb b h).1) (fun b h=>by have:=(hb b h).2.1;omega)
end Go.Av.F
end
