/- Lemmas for the proof, no statement of the seat; no conditions. -/
import Derived.Test.YtbdklnphnibfiaaDoorLayAL
import Derived.Test.YtbdklnphnibfiaaDoorProg
set_option linter.unusedSimpArgs false
set_option linter.unusedVariables false
set_option linter.unnecessarySimpa false
set_option maxRecDepth 100000
section
namespace Go.Av.F
open Go Go.Av
open Go.Proofs Go.Proofs.Tryd
attribute [-simp] getU hdS canon qae i64w
attribute [local simp] tt3 tt4 tt9 tt5 tt94 tt33 tt31 tt64 tt62 tt53 tt71
theorem isU8_wrap (x:Int):isU8 [.int .u8 (IntKind.u8.wrap x)]=true:=by
 have h:IntKind.u8.wrap x=x % 256:=rfl
 simp[isU8,h]
 try omega
end Go.Av.F
end
section
namespace Go.Av.F
open Go Go.Av
open Go.Proofs Go.Proofs.Tryd
attribute [-simp] getU hdS canon qae i64w
attribute [local simp] tt3 tt4 tt9 tt5 tt94 tt33 tt31 tt64 tt62 tt53 tt71
end Go.Av.F
end
section
namespace Go.Av.F
open Go Go.Av
open Go.Proofs Go.Proofs.Tryd
attribute [-simp] getU hdS canon qae i64w
attribute [local simp] tt3 tt4 tt9 tt5 tt94 tt33 tt31 tt64 tt62 tt53 tt71
@[simp] theorem row_drop1 (t:BS):(BS.row t).drop 1=.int .i64 t.kind::.str t.frm::t.bl.map .str:=rfl
@[simp] theorem row_drop2 (t:BS):(BS.row t).drop 2=.str t.frm::t.bl.map .str:=rfl
@[simp] theorem row_take1 (t:BS):(BS.row t).take 1=[.str t.name]:=rfl
@[simp] theorem row_take2 (t:BS):(BS.row t).take 2=[.str t.name,.int .i64 t.kind]:=rfl
@[simp] theorem row_take3 (t:BS):(BS.row t).take 3=[.str t.name,.int .i64 t.kind,.str t.frm]:=rfl
end Go.Av.F
end
section
namespace Go.Av.F
open Go Go.Av
open Go.Proofs Go.Proofs.Tryd
attribute [-simp] getU hdS canon qae i64w
attribute [local simp] tt3 tt4 tt9 tt5 tt94 tt33 tt31 tt64 tt62 tt53 tt71
end Go.Av.F
end
section
namespace Go.Av.F
open Go Go.Av
open Go.Proofs Go.Proofs.Tryd
attribute [-simp] getU hdS canon qae i64w
def resB (bs:List BS) (o:BO):List BS×Int:=if qat bs=true then doB bs o else ([],5)
def bkP (res:List BS×Int) (r:AV) (L':List (Nat×Ob)):Prop:=r=.tup [bk res.1,.int .i64 res.2]∧L'=[]
theorem qcg:∀ bs:List BS,clR (bs.map BS.row)=true
 | []=>rfl
 | a::r=>by
  have:=qcg r
  simp only[clR,List.map_cons,List.all_cons,Bool.and_eq_true]at this ⊢
  refine⟨?_,this⟩
  simp[BS.row,clL,clL_strs,clA]
theorem pureC {f:Nat} {args:List AV} {xs:List Nat} {bs:List BS} {o:BO} (h:ACall Go.Proofs.Tryd.prog f args [] (bkN xs (qat bs) (doB bs o))):ACall Go.Proofs.Tryd.prog f args [] (bkP (resB bs o)):=by
 unfold resB
 cases h1:qat bs with
 | false =>
  rw[h1]at h
  refine h.imp ?_
  rintro r L' hr
  simp only[bkN,Bool.false_eq_true,if_false]at hr
  obtain⟨rfl,rfl⟩:=hr
  exact⟨_,impA_tup2 (impA_agg1 (impA_nils 11)) (impA_refl _),rfl,rfl⟩
 | true =>
  rw[h1]at h
  refine h.frz ?_
  rintro r L' hr
  simp only[bkN,if_true]at hr
  obtain⟨id,_,rfl,rfl⟩:=hr
  refine⟨id,bkOb (doB bs o).1,rfl,qcg _,?_,rfl⟩
  simp[bk,bkOb]
theorem resB_len (bs:List BS) (o:BO):(resB bs o).1.length≤bs.length+1:=by
 unfold resB;split
 ·exact doB_len bs o
 ·simp
end Go.Av.F
end
section
namespace Go.Av.F
open Go Go.Av
open Go.Proofs Go.Proofs.Tryd
attribute [-simp] getU hdS canon qae i64w
attribute [local simp] tt3 tt4 tt9 tt5 tt94 tt33 tt31 tt64 tt62 tt53 tt71 tt34 tt36 tt29
structure TR where
 base:List BS
 since:List BO
 sure:Int
def TR.row (t:TR):List AV:=[.lst 11 (t.base.map BS.row),.lst 5 (t.since.map BO.row),.int .i64 t.sure]
def stepB (b:List BS) (ops:List BO):List BS:=ops.foldl (fun b o=>(resB b o).1) b
def nthB (t:TR) (k:Nat):List BS:=stepB t.base (t.since.take k)
def booksB (t:TR):List (List BS):=if qat t.base=true∧t.since.length≤8∧0≤t.sure∧t.sure≤t.since.length then (List.range (t.since.length+1-t.sure.toNat)).map fun i=>nthB t (t.sure.toNat+i) else []
def bkRow (b:List BS):List AV:=[.lst 11 (b.map BS.row)]
def bksOb (l:List (List BS)):Ob:=⟨1,l.map bkRow⟩
theorem bks_sz (l:List (List BS)):(bksOb l).sz=1:=rfl
theorem bks_els (l:List (List BS)):(bksOb l).els=l.map bkRow:=rfl
theorem renL_bkc (ρ:Nat→Option Plc):(renL ρ ∘ bkRow)=bkRow:=by funext x;simp[bkRow]
theorem take_bks (l:List (List BS)):List.take l.length (l.map bkRow)=l.map bkRow:=List.take_of_length_le (by simp)
attribute [local simp] bks_sz bks_els renL_bkc take_bks
theorem op_len (o:BO):(BO.row o).length=5:=rfl
theorem op_take (o:BO):(BO.row o).take 5=BO.row o:=rfl
attribute [local simp] op_len op_take
theorem nth_zero (t:TR):nthB t 0=t.base:=rfl
theorem nth_step (t:TR) {k:Nat} {o:BO} (h:t.since[k]?=some o):nthB t (k+1)=(resB (nthB t k) o).1:=by
 unfold nthB stepB
 rw[List.take_add_one,h]
 simp
def accT (t:TR) (k:Nat):List (List BS):=(List.range (k-t.sure.toNat)).map fun i=>nthB t (t.sure.toNat+i)
theorem accT_step (t:TR) (k:Nat):accT t (k+1)=accT t k++(if t.sure.toNat≤k then [nthB t k] else []):=by
 unfold accT
 by_cases h:t.sure.toNat≤k
 ·rw[if_pos h,show k+1-t.sure.toNat=(k-t.sure.toNat)+1 by omega,List.range_succ,List.map_append]
  simp
  congr 1
  omega
 ·rw[if_neg h,show k+1-t.sure.toNat=0 by omega,show k-t.sure.toNat=0 by omega]
  simp
def okT (t:TR):Prop:=qat t.base=true∧t.since.length≤8∧0≤t.sure∧t.sure≤t.since.length
theorem copyP (b:List BS) (hl:b.length<2000000):ACall Go.Proofs.Tryd.prog 33 [bk b] [] (fun r L'=>r=bk b∧L'=[]):=by
 refine(copyC b hl).frz ?_
 rintro r L' ⟨rfl,rfl⟩
 exact⟨_,bkOb b,rfl,qcg b,by simp[bk,bkOb],rfl⟩
theorem booksB_acc {t:TR} (h:okT t):booksB t=accT t (t.since.length+1):=by
 unfold booksB accT;rw[if_pos (id h:qat t.base=true∧t.since.length≤8∧0≤t.sure∧t.sure≤t.since.length)]
theorem accT_len (t:TR) (k:Nat):(accT t k).length≤k:=by unfold accT;simp
def bksP (l:List (List BS)) (r:AV) (L':List (Nat×Ob)):Prop:=r=.lst 1 (l.map bkRow)∧L'=[]
theorem clR_bks (l:List (List BS)):clR (l.map bkRow)=true:=by
 unfold clR
 rw[List.all_map,List.all_eq_true]
 intro b _
 simp[bkRow,clL,clA]
def stSt (t:TR) (k:Nat):S :=
 ⟨mkT [(1,.ptr 1 0 0),(3,.ptr 3 0 0),(4,.sl 4 0 (accT t k).length),(5,.int .i64 k)],hpOf [(1,⟨3,[t.row]⟩),(3,⟨1,[bkRow (nthB t (k-1))]⟩),(4,bksOb (accT t k))],Us.of [1,3,4]⟩
end Go.Av.F
end
section
namespace Go.Av.F
open Go Go.Av
open Go.Proofs Go.Proofs.Tryd
attribute [-simp] getU hdS canon qae i64w
attribute [local simp] tt3 tt4 tt9 tt5 tt94 tt33 tt31 tt64 tt62 tt53 tt71 tt34 tt36 tt29 op_len op_take
def opsOb (l:List BO):Ob:=⟨5,l.map BO.row⟩
theorem ops_sz (l:List BO):(opsOb l).sz=5:=rfl
theorem ops_els (l:List BO):(opsOb l).els=l.map BO.row:=rfl
theorem qbt (ρ:Nat→Option Plc):(renL ρ ∘ BO.row)=BO.row:=by funext x;simp[BO.row]
attribute [local simp] ops_sz ops_els qbt
def zTr:Ob:=⟨3,[[.nils,.nils,.int .i64 0]]⟩
def tN (bs:List UInt8) (b:List BS) (sure:Int) (q:Int) (i:Int):S :=
 ⟨mkT [(0,.ptr 1000 0 0),(2,.ptr 2 0 0),(3,.ptr 3 0 0),(4,.ptr 4 0 0),(5,.int .i64 i)],hpOf [(1000,rdOb bs q),(2,zTr),(3,⟨3,[[.lst 11 (b.map BS.row),.nils,.int .i64 sure]]⟩),(4,⟨1,[bkRow b]⟩)],Us.of [1000,1000,2,3,4]⟩
def tC (bs:List UInt8) (b:List BS) (sure:Int) (ops:List BO) (q:Int) (i:Int):S :=
 ⟨mkT [(0,.ptr 1000 0 0),(2,.ptr 2 0 0),(3,.ptr 3 0 0),(4,.ptr 4 0 0),(5,.int .i64 i)],hpOf [(1000,rdOb bs q),(2,zTr),(3,⟨3,[[.lst 11 (b.map BS.row),.sl 901 0 ops.length,.int .i64 sure]]⟩),(4,⟨1,[bkRow b]⟩),(901,opsOb ops)],Us.of [1000,1000,2,3,4,901]⟩
def tS (bs:List UInt8) (b:List BS) (sure:Int) (x:Int×Int×List BO):S:=if x.2.2=[] then tN bs b sure x.2.1 x.1 else tC bs b sure x.2.2 x.2.1 x.1
end Go.Av.F
end
