/- Lemmas for the proof, no statement of the seat; no conditions. -/
import Derived.Test.YthiidgicibfbjaaGreatDoorLayAM
import Derived.Test.YthiidgicibfbjaaGreatDoorProg
set_option linter.unusedSimpArgs false
set_option linter.unusedVariables false
set_option linter.unnecessarySimpa false
set_option maxRecDepth 100000
section
namespace Go.Av.F
open Go Go.Av
open Go.Proofs Go.Proofs.Tryz
attribute [-simp] qdK hdS qaw qah qao
attribute [local simp] tt3 tt4 tt9 qpx qyy qxS qvq qmv
def qdw (l:List (List AV)) (z:List AV) (i:Nat):List (List AV):=l.take i++List.replicate (l.length-i) z
theorem qtj (l:List (List AV)) (z:List AV) (i:Nat) (h:i≤l.length):(qdw l z i).length=l.length:=by simp[qdw];omega
theorem qrF (l:List (List AV)) (z:List AV):qdw l z 0=List.replicate l.length z:=by simp[qdw]
theorem qtl (l:List (List AV)) (z:List AV):qdw l z l.length=l:=by simp[qdw]
theorem qti {l:List (List AV)} {z x:List AV} {i:Nat} (h:l[i]?=some x):(qdw l z i).set i x=qdw l z (i+1):=by
 obtain⟨hi,rfl⟩:=qEW.1 h;apply qGO;intro j;unfold qdw;rw[qFn];have hl:(l.take i).length=i:=by simp;omega
 have hl1:(l.take (i+1)).length=i+1:=by simp;omega
 split
 ·rename_i e;subst e;rw[if_pos (by simp;omega),qEO (by omega),qGP (by omega),h]
 ·rename_i e;rcases qFk j i with hj | hj | hj
  ·rw[qEO (by omega),qEO (by omega),qGP hj,qGP (by omega)]
  ·exact absurd hj.symm e
  ·rw[qEN (by omega),qEN (by omega),qF4,qF4,hl,hl1];by_cases k:j<l.length
   ·rw[if_pos (by omega),if_pos (by omega)]
   ·rw[if_neg (by omega),if_neg (by omega)]
theorem qtk (l:List (List AV)) (z:List AV) (i:Nat) (h:i<l.length):(qdw l z i)[i]?=some z:=by
 unfold qdw;rw[qEN (by simp;omega),qF4,if_pos (by simp;omega)]
theorem qtM {l:List (List AV)} {z:List AV} (i:Nat) (h1:clR l=true) (h2:clL z=true):clR (qdw l z i)=true:=by
 refine qxI (qtK _ h1) ?_;simp only[clR,qED];intro x hx;obtain⟨_,rfl⟩:=List.mem_replicate.1 hx;exact h2
theorem qxH {α:Type} (f:α→List AV) (h:∀ a,clL (f a)=true) (l:List α):clR (l.map f)=true:=by
 unfold clR;rw[List.all_map,qED];intro b _;exact h b
def zInt:List AV:=[.int .i64 0]
def qyE (l:List Int) (i:Nat):S:=⟨mkT [(0,.lst 1 (l.map qac)),(3,.sl 7 0 l.length),(4,.int .i64 i)],qaG [(7,⟨1,qdw (l.map qac) zInt i⟩)],Us.of [7]⟩
theorem qpU (l:List Int) (hl:l.length≤1048576):ACall Go.Proofs.Tryz.prog 13 [.lst 1 (l.map qac)] [] (fun r L'=>r=.sl 7 0 l.length∧L'=[(7,⟨1,l.map qac⟩)]):=by
 refine acx func13 [] ntmps13 rfl rfl rfl ?_;simp;refine⟨by omega,?_⟩;refine qbr (X:=Nat) [0,3,4] (qyE l) (fun i=>l.length-i) (fun i=>i≤l.length) 0 ⟨by simp,[(7,7)],by simp[qah],by simp[qaw,qag,qyE,qrF,zInt]⟩ ?_;intro i hi;by_cases h1:i<l.length
 ·obtain⟨x,e0⟩:∃ x,l[i]=x:=⟨_,rfl⟩;have e1:l[i]?=some x:=by rw[← e0];exact qEq h1
  have e2:IntKind.i64.wrap ((i:Int)+1)=((i+1:Nat):Int):=by rw[qaK _ (by omega)];omega
  have hfl:=qtj (l.map qac) zInt i (by simp;omega);have hfg:=qtk (l.map qac) zInt i (by simpa using h1);have hfs:=qti (l:=l.map qac) (z:=zInt) (x:=qac x) (i:=i) (by simp[e1]);have hx:(qac x).length=1:=rfl;have hx2:qac x=[.int .i64 x]:=rfl;have hcl:clR (l.map qac)=true:=qxH qac (fun a=>by simp[qac,clL,clA]) l;have hren:∀ ρ,(qdw (l.map qac) zInt (i+1)).map (qb3 ρ)=qdw (l.map qac) zInt (i+1):=fun ρ=>qzN ρ (qtM (i+1) hcl (by simp[zInt]));have hg0:(qdw (l.map qac) zInt i)[i]'(by rw[hfl];simpa using h1)=zInt:=(qEW.1 hfg).2;have hzt:zInt.tail=[]:=rfl;have hzl:zInt.length=1:=rfl;have hfl':(qdw (l.map qac) zInt i).length=l.length:=by rw[hfl];simp
  rw[hx2]at hfs;simp[qyE,h1,e0,e1,hx,hx2,hfl',hfg,hg0,hzt,hzl,hfs];exact qbo (i+1) (by omega) (by omega) [(7,7)] (by simp[qah]) (by simp[qaw,qag,qyE,e2,hren])
 ·have:i=l.length:=by omega
  subst this;have:=qtl (l.map qac) zInt;simp at this;simp[qyE,this]
end Go.Av.F
end
section
namespace Go.Av.F
open Go Go.Av
open Go.Proofs Go.Proofs.Tryz
attribute [-simp] qdK hdS qaw qah qao
attribute [local simp] qpP qyz qBL
attribute [local simp] tt3 tt4 tt9 qpx qyy qxS qvq qmv qsn
theorem frzP {f:Nat} {args:List AV} {sz:Nat} {rows:List (List AV)} {n:Nat} (hn:n=rows.length) (hcl:clR rows=true) (h:ACall Go.Proofs.Tryz.prog f args [] (fun r L'=>r=.sl 7 0 n∧L'=[(7,⟨sz,rows⟩)])):ACall Go.Proofs.Tryz.prog f args [] (fun r L'=>r=.lst sz rows∧L'=[]):=by
 refine h.frz ?_;rintro r L' ⟨rfl,rfl⟩;refine⟨7,⟨sz,rows⟩,rfl,hcl,?_,rfl⟩;subst hn;simp
end Go.Av.F
end
section
namespace Go.Av.F
open Go Go.Av
open Go.Proofs Go.Proofs.Tryz
attribute [-simp] qdK hdS qaw qah qao
attribute [local simp] qpP qyz qBL
attribute [local simp] tt3 tt4 tt9 qpx qyy qxS qvq qmv qsn
theorem qxk (l:List Int) (hl:l.length≤1048576):ACall Go.Proofs.Tryz.prog 15 [.lst 1 (l.map qac),.lst 1 (l.map qac)] [] (fun r L'=>r=.bool true∧L'=[]):=by
 refine acx func15 [] ntmps15 rfl rfl rfl ?_;simp;refine qbr (X:=Nat) [0,1,5] (fun i=>⟨mkT [(0,.lst 1 (l.map qac)),(1,.lst 1 (l.map qac)),(5,.int .i64 i)],qaG [],Us.of []⟩) (fun i=>l.length-i) (fun i=>i≤l.length) 0 ⟨by simp,[],by simp[qah],by simp[qaw]⟩ ?_;intro i hi;by_cases h1:i<l.length
 ·obtain⟨x,e0⟩:∃ x,l[i]=x:=⟨_,rfl⟩;have e1:l[i]?=some x:=by rw[← e0];exact qEq h1
  have e2:IntKind.i64.wrap ((i:Int)+1)=((i+1:Nat):Int):=by rw[qaK _ (by omega)];omega
  simp[h1,e0,e1,qac,e2];exact qbo (i+1) (by omega) (by omega) [] (by simp[qah]) (by simp[qaw,qac])
 ·have:i=l.length:=by omega
  subst this;simp
end Go.Av.F
end
section
namespace Go.Av.F
open Go Go.Av
open Go.Proofs Go.Proofs.Tryz
attribute [-simp] qdK hdS qaw qah qao
attribute [local simp] tt3 tt4 tt9 tt5 qcm qc3 qcP qcO qc2 qdC qmm qpx qvr
structure TR where
 base:List BS
 since:List BO
 sure:Int
def TR.row (t:TR):List AV:=[.lst 11 (t.base.map BS.row),.lst 5 (t.since.map BO.row),.int .i64 t.sure]
def qxN (b:List BS):List AV:=[.lst 11 (b.map BS.row)]
theorem qur (o:BO):(BO.row o).length=5:=rfl
theorem qqT (o:BO):(BO.row o).take 5=BO.row o:=rfl
attribute [local simp] qur qqT
end Go.Av.F
end
section
namespace Go.Av.F
open Go Go.Av
open Go.Proofs Go.Proofs.Tryz
attribute [-simp] qdK hdS qaw qah qao
attribute [local simp] tt3 tt4 tt9 tt5 qcm qc3 qcP qcO qc2 qdC qmm qpx qvr qur qqT
def qwx (l:List BO):Ob:=⟨5,l.map BO.row⟩
theorem qzA (l:List BO):(qwx l).sz=5:=rfl
theorem qww (l:List BO):(qwx l).els=l.map BO.row:=rfl
attribute [local simp] qzA qww
def zTr:Ob:=⟨3,[[.nils,.nils,.int .i64 0]]⟩
def tA (bs:List UInt8) (x:Int×List BS):S :=
 ⟨mkT [(0,.ptr 1000 0 0),(2,.ptr 2 0 0),(3,.ptr 3 0 0),(4,.ptr 4 0 0)],qaG [(1000,qzr bs x.1),(2,zTr),(3,⟨3,[[.lst 11 (x.2.map BS.row),.nils,.int .i64 0]]⟩),(4,⟨1,[qxN x.2]⟩)],Us.of [1000,1000,2,3,4]⟩
def tN (bs:List UInt8) (b:List BS) (sure:Int) (q:Int) (i:Int):S :=
 ⟨mkT [(0,.ptr 1000 0 0),(2,.ptr 2 0 0),(3,.ptr 3 0 0),(4,.ptr 4 0 0),(5,.int .i64 i)],qaG [(1000,qzr bs q),(2,zTr),(3,⟨3,[[.lst 11 (b.map BS.row),.nils,.int .i64 sure]]⟩),(4,⟨1,[qxN b]⟩)],Us.of [1000,1000,2,3,4]⟩
def tC (bs:List UInt8) (b:List BS) (sure:Int) (ops:List BO) (q:Int) (i:Int):S :=
 ⟨mkT [(0,.ptr 1000 0 0),(2,.ptr 2 0 0),(3,.ptr 3 0 0),(4,.ptr 4 0 0),(5,.int .i64 i)],qaG [(1000,qzr bs q),(2,zTr),(3,⟨3,[[.lst 11 (b.map BS.row),.sl 901 0 ops.length,.int .i64 sure]]⟩),(4,⟨1,[qxN b]⟩),(901,qwx ops)],Us.of [1000,1000,2,3,4,901]⟩
def tS (bs:List UInt8) (b:List BS) (sure:Int) (x:Int×Int×List BO):S:=if x.2.2=[] then tN bs b sure x.2.1 x.1 else tC bs b sure x.2.2 x.2.1 x.1
end Go.Av.F
end
section
namespace Go.Av.F
open Go Go.Av
open Go.Proofs Go.Proofs.Tryz
attribute [-simp] qdK hdS qaw qah qao
attribute [local simp] tt3 tt4 tt9 tt5 qcm qc3 qcP qcO qc2 qdC qmm qpx
theorem qix (x:Int):qz2 [.int .u8 (IntKind.u8.wrap x)]=true:=by
 have h:IntKind.u8.wrap x=x % 256:=rfl;simp[qz2,h]
 try omega
end Go.Av.F
end
section
namespace Go.Av.F
open Go Go.Av
open Go.Proofs Go.Proofs.Tryz
attribute [-simp] qdK hdS qaw qah qao
attribute [local simp] tt3 tt4 tt9 tt5 qcm qc3 qcP qcO qc2 qdC qmm qpx
def BkG (bs:List BS):Prop:=∀ b∈bs,b.bl.length=8∧b.name.length≤24∧b.frm.length≤24
end Go.Av.F
end
section
namespace Go.Av.F
open Go Go.Av
open Go.Proofs Go.Proofs.Tryz
attribute [-simp] qdK hdS qaw qah qao
attribute [local simp] tt3 tt4 tt9 tt5 qcm qc3 qcP qcO qc2 qdC qmm qpx
@[simp] theorem qzg (t:BS):(BS.row t).drop 1=.int .i64 t.kind::.str t.frm::t.bl.map .str:=rfl
@[simp] theorem qzf (t:BS):(BS.row t).drop 2=.str t.frm::t.bl.map .str:=rfl
@[simp] theorem qze (t:BS):(BS.row t).take 1=[.str t.name]:=rfl
@[simp] theorem qzd (t:BS):(BS.row t).take 2=[.str t.name,.int .i64 t.kind]:=rfl
@[simp] theorem qzc (t:BS):(BS.row t).take 3=[.str t.name,.int .i64 t.kind,.str t.frm]:=rfl
end Go.Av.F
end
section
namespace Go.Av.F
open Go Go.Av
open Go.Proofs Go.Proofs.Tryz
attribute [-simp] qdK hdS qaw qah qao
attribute [local simp] tt3 tt4 tt9 tt5 qcm qc3 qcP qcO qc2 qdC qmm qpx
end Go.Av.F
end
section
namespace Go.Av.F
open Go Go.Av
open Go.Proofs Go.Proofs.Tryz
attribute [-simp] qdK hdS qaw qah qao
def qx6 (bs:List BS) (o:BO):List BS×Int:=if qa9 bs=true then doB bs o else ([],5)
theorem qwQ (bs:List BS) (hb:BkG bs) (hl:bs.length<1500000):ACall Go.Proofs.Tryz.prog 181 [bk bs] [] (fun r L'=>r=.bool (qa9 bs)∧L'=[]) :=
 qsX bs ▸ qko bs (by omega) (fun b h=>(hb b h).1) (fun b h=>by have:=(hb b h).2.1;omega)
theorem qvQ (bs:List BS) (hb:BkG bs) (hl:bs.length<1500000):ACall Go.Proofs.Tryz.prog 161 [bk bs] [] (fun r L'=>r=.bool (qa9 bs)∧L'=[]) :=
 qr4 bs (by omega) (fun b h=>(hb b h).1) (fun b h=>by have:=(hb b h).2.1;omega)
end Go.Av.F
end
