/- Lemmas for the proof, no statement of the seat; no conditions. -/
import Derived.Test.YthgigdhkcffloaaGreatDoorLayAL
import Derived.Test.YthgigdhkcffloaaGreatDoorProg
set_option linter.unusedSimpArgs false
set_option linter.unusedVariables false
set_option linter.unnecessarySimpa false
set_option maxRecDepth 100000
section
namespace Go.Av.F
open Go Go.Av Go.Proofs Go.Proofs.Tryz
attribute [simp] DE.row PT.row qaw
attribute [simp] tt3 tt4 tt5 tt9 tt22 tt23 tt24 tt25 tt26 tt28 tt40 tt41 tt43 tt48 tt51 tt52 tt53 tt54 tt56 tt65 tt67 tt75 tt88 tt90 tt115 tt123 tt137 tt162 tt167
theorem cv_of {f:Nat} {args:List AV} {v:AV} (h:ACall prog f args [] (fun r L'=>r=v∧L'=[])) (he:enters prog f=true:=by kernel_rfl) (hca:clL args=true:=by simp) (hcv:clA v=true:=by simp):CV prog f args v:=⟨he,hca,hcv,h⟩
end Go.Av.F

end
section
namespace Go.Av.F
open Go Go.Av Go.Proofs Go.Proofs.Tryz
def deOkB (e:DE):Bool:=decide (0≤e.es) && decide (e.es<65521) && decide (1≤e.ea) && decide (e.ea<120) && decide (1≤e.ec) && decide (e.ec≤1000)
theorem sEntryC (e:DE):CV prog 70 [.agg e.row] (.bool (deOkB e)):=by
 refine cvx func70 [] ntmps70 rfl rfl rfl ?_
 simp -implicitDefEqProofs [deOkB]
 grind
def wiB (a b c:Int):Bool:=decide (b≤a) && decide (a≤c)
theorem withinC' (a b c:Int):CV prog 28 [.int .i64 a,.int .i64 b,.int .i64 c] (.bool (wiB a b c)):=cv_of (withinC a b c)
theorem iEntryC (e:DE):CV prog 59 [.agg e.row] (.bool (deOkB e)):=by
 refine cvx func59 [] ntmps59 rfl rfl rfl ?_
 simp -implicitDefEqProofs
 repeat' first
  | (refine(withinC' ..).call ?_;simp -implicitDefEqProofs)
  | with_reducible refine And.intro ?_ ?_
  | with_reducible intro _
 all_goals grind[deOkB,wiB]
attribute [simp] shL sh1 beqC beq1
@[simp] theorem eqTyPtr:eqTy prog 40=true:=by
 have g:prog.eqGuardType prog.depth 40=false:=by kernel_rfl
 have s:prog.stoodInHeld 40=false:=by kernel_rfl
 simp -implicitDefEqProofs [eqTy,g,eqOk,eqFs,underlying40,underlying3,s,shL,sh1]
def ptOkB (p:PT):Bool:=if p.pa=0 then decide (p.ps=0) && decide (p.pb=0) else decide (0<p.pa) && decide (p.pa<120) && decide (0≤p.ps) && decide (p.ps<65521) && decide (0≤p.pb) && decide (p.pb≤1000000)
theorem sPtrOkC (p:PT):CV prog 42 [.agg p.row] (.bool (ptOkB p)):=by
 refine cvx func42 [] ntmps42 rfl rfl rfl ?_
 simp -implicitDefEqProofs
 all_goals grind[ptOkB]
theorem iPtrOkC (p:PT):CV prog 61 [.agg p.row] (.bool (ptOkB p)):=by
 refine cvx func61 [] ntmps61 rfl rfl rfl ?_
 simp -implicitDefEqProofs
 repeat' first
  | (refine(withinC' ..).call ?_;simp -implicitDefEqProofs)
  | with_reducible refine And.intro ?_ ?_
  | with_reducible intro _
 all_goals grind[ptOkB,wiB]
def qbb (p:PT):Bool:=ptOkB p && !decide (p.pa=0)
theorem realC (p:PT):CV prog 32 [.agg p.row] (.bool (qbb p)):=by
 refine cvx func32 [] ntmps32 rfl rfl rfl ?_
 simp -implicitDefEqProofs
 refine(iPtrOkC p).call ?_
 simp -implicitDefEqProofs
 all_goals grind[qbb]
def ddtR (q:Int):List DE→Bool
 | []=>true
 | x::r=>deOkB x && decide (q<x.ea) && ddtR x.ea r
def qaf (l:List DE):Bool:=decide (l.length≤48) && ddtR 0 l
theorem sDdtOkC (l:List DE) (hl:l.length≤1048576):CV prog 39 [.lst 3 (l.map DE.row)] (.bool (qaf l)):=by
  obtain⟨R,hR⟩:∃ R,ddtR 0 l=R:=⟨_,rfl⟩
  refine cvx func39 [] ntmps39 rfl rfl rfl ?_
  simp -implicitDefEqProofs
  refine⟨fun h=>by simp[qaf];omega,fun h=>?_⟩
  refine ev_lp (X:=Nat×Int) [0,3] [] (fun x=>[(3,.int .i64 x.1)]) (fun _=>[]) (fun x=>l.length-x.1)
     (fun x=>x.1≤l.length∧(x.1=0→x.2=0)∧(∀ k,x.1=k+1→∃ y,l[k]?=some y∧y.ea=x.2)∧ddtR x.2 (l.drop x.1)=R) (0,0) (by simp[hR]) ?_
  rintro⟨i,q⟩ ⟨hi,h0,hp,hd⟩
  simp only at hi h0 hp hd
  cases hr:l.drop i with
  | nil =>
    have:=dropn hr
    rw[hr]at hd
    have hie:i=l.length:=by omega
    simp -implicitDefEqProofs [hie]
    grind[qaf,ddtR]
  | cons x r =>
    obtain⟨h1,e0,e1,h3⟩:=dropc hr
    rw[hr]at hd
    have hxx:deOkB x=true→0<x.ea:=by grind[deOkB]
    have e2:=i64w ((i:Int)+1) (by omega) (by omega)
    simp -implicitDefEqProofs [h1,e0]
    refine(sEntryC x).call ?_
    by_cases hz:i=0
    · simp[hz]
      exact⟨fun hx=>nx (1,x.ea) [] (by grind[ddtR]),fun hx=>by grind[qaf,ddtR]⟩
    · obtain⟨k,hk⟩:∃ k,i=k+1:=⟨i-1,by omega⟩
      obtain⟨y,f1,f2⟩:=hp k hk
      have h1':k<l.length:=by omega
      have f0:l[k]=y:=by grind
      have e3:(i:Int)-1=k:=by omega
      have e4:=i64w (k:Int) (by omega) (by omega)
      have hpos:0<i:=by omega
      simp -implicitDefEqProofs [h1,e0,h1',f0,e2,e3,e4,hpos]
      exact⟨fun hx=>⟨fun _=>by grind[qaf,ddtR],fun _=>nx (i+1,x.ea) [] (by grind[ddtR])⟩,fun hx=>by grind[qaf,ddtR]⟩
theorem oneA_row3 (e:DE):∀ x∈e.row,oneA x=true:=fun y hy=>by
 simp only[DE.row,List.mem_cons,List.not_mem_nil,or_false]at hy
 rcases hy with rfl | rfl | rfl <;> rfl
theorem iDdtOkC (l:List DE) (hl:l.length≤1048576):CV prog 29 [.lst 3 (l.map DE.row)] (.bool (qaf l)):=by
  obtain⟨R,hR⟩:∃ R,ddtR 0 l=R:=⟨_,rfl⟩
  refine cvx func29 [(4,[zJ 0 [4] [],zI 1,zI 2,zI 3,zI 4,zI 5,zI 6,zI 7,zI 8,zI 9,zI 10,zI 11,zI 12,zI 13,zJ 14 [4] [],zI 15,zI 16,zI 17])] ntmps29 rfl rfl rfl ?_
  simp -implicitDefEqProofs
  refine ev_lp (X:=Nat×Int) [0,5,6,7] [] (fun x=>[(7,.int .i64 x.1)]) (fun _=>[]) (fun x=>l.length-x.1)
     (fun x=>x.1≤l.length∧(x.1=0→x.2=0)∧(∀ k,x.1=k+1→∃ y,l[k]?=some y∧y.ea=x.2)∧ddtR x.2 (l.drop x.1)=R) (0,0) (by simp[hR]) ?_
  rintro⟨i,q⟩ ⟨hi,h0,hp,hd⟩
  simp only at hi h0 hp hd
  cases hr:l.drop i with
  | nil =>
    have:=dropn hr
    rw[hr]at hd
    have hie:i=l.length:=by omega
    simp -implicitDefEqProofs [hie]
    grind[qaf,ddtR]
  | cons x r =>
    obtain⟨h1,e0,e1,h3⟩:=dropc hr
    rw[hr]at hd
    have hxx:deOkB x=true→0<x.ea:=by grind[deOkB]
    have e2:=i64w ((i:Int)+1) (by omega) (by omega)
    have hf:R=false→qaf l=false:=by grind[qaf]
    by_cases hz:i=0
    · subst hz
      simp -implicitDefEqProofs [h1,e0]
      refine(iEntryC x).call ?_
      simp -implicitDefEqProofs
      exact⟨fun hx=>nx (1,x.ea) [] (by grind[ddtR]),fun hx=>by grind[ddtR]⟩
    · obtain⟨k,hk⟩:∃ k,i=k+1:=⟨i-1,by omega⟩
      obtain⟨y,f1,f2⟩:=hp k hk
      have h1':k<l.length:=by omega
      have f0:l[k]=y:=by grind
      have e3:(i:Int)-1=k:=by omega
      have e4:=i64w (k:Int) (by omega) (by omega)
      have hpos:0<i:=by omega
      simp -implicitDefEqProofs [h1,e0]
      refine(iEntryC x).call ?_
      simp -implicitDefEqProofs [h1',f0,e2,e3,e4,hpos]
      repeat' first
        | with_reducible intro _
        | with_reducible refine And.intro ?_ ?_
      all_goals first
        | exact nx (i+1,x.ea) [] (by grind[ddtR])
        | grind[ddtR]
end Go.Av.F

end
section
namespace Go.Av.F
open Go Go.Av Go.Proofs Go.Proofs.Tryz
structure RowT {α:Type} (row:α→List AV) (tS tE sz:Nat):Prop where
 S:ttOf prog tS=some ⟨.slc tE,1,24,[.nils]⟩
 E:∃ fs b z,ttOf prog tE=some ⟨.srt fs,sz,b,z⟩
 cl:∀ x,clL (row x)=true
def ixA (tS tE:Nat):ACode :=
  .seq (.reg [⟨none,some 4,(Op.assign (Operand.const (Value.int IntKind.i64 0)))⟩])
  (.seq (.seq (.reg [⟨none,some 6,(Op.move (Operand.tmp 0))⟩,
       ⟨none,some 7,(Op.call ⟨(Callee.builtin Builtin.len),#[(Operand.tmp 6)],#[tS]⟩)⟩,
       ⟨none,some 8,(Op.move (Operand.const (Value.int IntKind.i64 0)))⟩])
    (.block 0 (.loop
  (.seq (.reg [⟨none,some 9,(Op.binOp BinOp.lss 3 (Operand.tmp 8) (Operand.tmp 7) 3)⟩])
  (.seq (.cond (Operand.tmp 9) (.skip) (.exit 0))
   (.seq (.block 1 (.seq (.reg [⟨none,some 10,(Op.move (Operand.tmp 8))⟩,
         ⟨none,some 5,(Op.assign (Operand.tmp 10))⟩])
      (.seq (.reg [⟨none,some 11,(Op.move (Operand.tmp 1))⟩,
          ⟨none,some 12,(Op.move (Operand.tmp 0))⟩,
          ⟨none,some 13,(Op.move (Operand.tmp 5))⟩,
          ⟨none,some 14,(Op.indexAddr tS (Operand.tmp 12) (Operand.tmp 13))⟩,
          ⟨none,some 15,(Op.load tE (Operand.tmp 14))⟩,
          ⟨none,some 16,(Op.call ⟨(Callee.value (Operand.tmp 11)),#[(Operand.tmp 15)],#[tE]⟩)⟩])
       (.cond (Operand.tmp 16) (.seq (.reg [⟨none,some 17,(Op.move (Operand.tmp 5))⟩,
            ⟨none,some 4,(Op.assign (Operand.tmp 17))⟩])
         (.ret)) (.skip)))))
    (.reg [⟨none,some 18,(Op.binOp BinOp.add 3 (Operand.tmp 8) (Operand.const (Value.int IntKind.i64 1)) 3)⟩,
       ⟨none,some 8,(Op.move (Operand.tmp 18))⟩])))))))
   (.seq (.reg [⟨none,some 4,(Op.assign (Operand.const (Value.int IntKind.i64 (-1))))⟩])
    (.ret)))
def ixR {α:Type} (p:α→Bool) (i:Nat):List α→Int
 | []=>-1
 | x::r=>if p x=true then i else ixR p (i+1) r
theorem ixR_ge {α:Type} (p:α→Bool):∀ (l:List α) (i:Nat),decide (0≤ixR p i l)=l.any p
 | [],i=>rfl
 | x::r,i=>by
  have:=ixR_ge p r (i+1)
  cases h:p x with
  | true=>simp[ixR,h]
  | false=>simpa [ixR,h]using this
theorem ix_ev {α:Type} {row:α→List AV} {tS tE sz g:Nat} (hT:RowT row tS tE sz) (p:α→Bool) (l:List α) (hl:l.length≤9000000) (hs:∀ x∈l,(row x).length=sz)
  (hg:∀ x∈l,CV prog g [.agg (row x)] (.bool (p x))) :
  ev prog ⟨19,[]⟩ (ixA tS tE) (retQ prog [.tmp 4] (fun r L'=>r=.int .i64 (ixR p 0 l)∧L'=[])) ⟨argT [.lst sz (l.map row),.fn g []],hpOf [],Us.of []⟩:=by
 obtain⟨fs,b,z,hE⟩:=hT.E
 have hS:=hT.S
 obtain⟨R,hR⟩:∃ R,ixR p 0 l=R:=⟨_,rfl⟩
 rw[hR]
 simp -implicitDefEqProofs [ixA,hS]
 refine ev_lp (X:=Nat) [0,1,7,8] [] (fun i=>[(8,.int .i64 i)]) (fun _=>[]) (fun i=>l.length-i) (fun i=>i≤l.length∧ixR p i (l.drop i)=R) 0 (by simp[hR]) ?_
 rintro i ⟨hi,hd⟩
 cases hr:l.drop i with
 | nil =>
  have:=dropn hr
  rw[hr]at hd
  have hie:i=l.length:=by omega
  simp -implicitDefEqProofs [hie]
  grind[ixR]
 | cons x r =>
  obtain⟨h1,e0,e1,h3⟩:=dropc hr
  rw[hr]at hd
  have hx:=List.mem_of_getElem? e1
  have e2:=i64w ((i:Int)+1) (by omega) (by omega)
  have hrl:=hs x hx
  have ht:(row x).take sz=row x:=List.take_of_length_le (by omega)
  simp -implicitDefEqProofs [hS,hE,h1,e0,hrl,ht]
  refine(hg x hx).call ?_
  simp -implicitDefEqProofs [e2]
  exact⟨fun hp=>by grind[ixR],fun hp=>nx (i+1) [] (by grind[ixR])⟩
def bsA (tS tE tU tA:Nat):ACode :=
  .seq (.reg [⟨none,some 6,(Op.assign (Operand.const (Value.int IntKind.i64 0)))⟩,
     ⟨none,some 7,(Op.assign (Operand.const (Value.bool false)))⟩])
  (.seq (.reg [⟨none,some 12,(Op.move (Operand.tmp 0))⟩,
      ⟨none,some 13,(Op.call ⟨(Callee.builtin Builtin.len),#[(Operand.tmp 12)],#[tS]⟩)⟩,
      ⟨none,some 8,(Op.assign (Operand.tmp 13))⟩])
   (.seq (.reg [⟨none,some 14,(Op.move (Operand.tmp 8))⟩,
       ⟨none,some 9,(Op.assign (Operand.const (Value.int IntKind.i64 0)))⟩,
       ⟨none,some 10,(Op.assign (Operand.tmp 14))⟩])
    (.seq (.block 0 (.loop
  (.seq (.seq (.reg [⟨none,some 15,(Op.move (Operand.tmp 9))⟩,
      ⟨none,some 16,(Op.move (Operand.tmp 10))⟩,
      ⟨none,some 17,(Op.binOp BinOp.lss 3 (Operand.tmp 15) (Operand.tmp 16) 3)⟩])
   (.cond (Operand.tmp 17) (.skip) (.exit 0)))
  (.block 1 (.seq (.reg [⟨none,some 18,(Op.move (Operand.tmp 9))⟩,
       ⟨none,some 19,(Op.move (Operand.tmp 10))⟩,
       ⟨none,some 20,(Op.binOp BinOp.add 3 (Operand.tmp 18) (Operand.tmp 19) 3)⟩,
       ⟨none,some 21,(Op.convert 3 tU (Operand.tmp 20))⟩,
       ⟨none,some 22,(Op.binOp BinOp.shr tU (Operand.tmp 21) (Operand.const (Value.int IntKind.u64 1)) tU)⟩,
       ⟨none,some 23,(Op.convert tU 3 (Operand.tmp 22))⟩,
       ⟨none,some 11,(Op.assign (Operand.tmp 23))⟩])
    (.seq (.reg [⟨none,some 24,(Op.move (Operand.tmp 2))⟩,
        ⟨none,some 25,(Op.move (Operand.tmp 0))⟩,
        ⟨none,some 26,(Op.move (Operand.tmp 11))⟩,
        ⟨none,some 27,(Op.indexAddr tS (Operand.tmp 25) (Operand.tmp 26))⟩,
        ⟨none,some 28,(Op.load tE (Operand.tmp 27))⟩,
        ⟨none,some 29,(Op.move (Operand.tmp 1))⟩,
        ⟨none,some 30,(Op.call ⟨(Callee.value (Operand.tmp 24)),#[(Operand.tmp 28),(Operand.tmp 29)],#[tE,tA]⟩)⟩,
        ⟨none,some 31,(Op.binOp BinOp.lss 3 (Operand.tmp 30) (Operand.const (Value.int IntKind.i64 0)) 3)⟩])
     (.cond (Operand.tmp 31) (.reg [⟨none,some 32,(Op.move (Operand.tmp 11))⟩,
         ⟨none,some 33,(Op.binOp BinOp.add 3 (Operand.tmp 32) (Operand.const (Value.int IntKind.i64 1)) 3)⟩,
         ⟨none,some 9,(Op.assign (Operand.tmp 33))⟩]) (.reg [⟨none,some 34,(Op.move (Operand.tmp 11))⟩,
         ⟨none,some 10,(Op.assign (Operand.tmp 34))⟩]))))))))
     (.seq (.reg [⟨none,some 35,(Op.move (Operand.tmp 9))⟩,
         ⟨none,some 36,(Op.move (Operand.tmp 9))⟩,
         ⟨none,some 37,(Op.move (Operand.tmp 8))⟩,
         ⟨none,some 38,(Op.binOp BinOp.lss 3 (Operand.tmp 36) (Operand.tmp 37) 3)⟩,
         ⟨none,some 39,(Op.move (Operand.tmp 38))⟩,
         ⟨some (39,true),some 40,(Op.move (Operand.tmp 2))⟩,
         ⟨some (39,true),some 41,(Op.move (Operand.tmp 0))⟩,
         ⟨some (39,true),some 42,(Op.move (Operand.tmp 9))⟩,
         ⟨some (39,true),some 43,(Op.indexAddr tS (Operand.tmp 41) (Operand.tmp 42))⟩,
         ⟨some (39,true),some 44,(Op.load tE (Operand.tmp 43))⟩,
         ⟨some (39,true),some 45,(Op.move (Operand.tmp 1))⟩,
         ⟨some (39,true),some 46,(Op.call ⟨(Callee.value (Operand.tmp 40)),#[(Operand.tmp 44),(Operand.tmp 45)],#[tE,tA]⟩)⟩,
         ⟨some (39,true),some 47,(Op.binOp BinOp.eql 3 (Operand.tmp 46) (Operand.const (Value.int IntKind.i64 0)) 3)⟩,
         ⟨none,some 48,(Op.pick (Operand.tmp 39) (Operand.tmp 47) (Operand.const (Value.bool false)))⟩,
         ⟨none,some 6,(Op.assign (Operand.tmp 35))⟩,
         ⟨none,some 7,(Op.assign (Operand.tmp 48))⟩])
      (.ret)))))
def bsK {α:Type} (c:α→Int) (l:List α):Nat:=(l.takeWhile fun x=>decide (c x<0)).length
def bsT {α:Type} (c:α→Int) (l:List α):Bool:=match l[bsK c l]? with
 | some x=>c x == 0
 | none=>false
def UpC {α:Type} (c:α→Int) (l:List α):Prop:=∀ (i j:Nat) (a b:α),i<j→l[i]?=some a→l[j]?=some b→c b<0→c a<0
theorem bsK_lt {α:Type} {c:α→Int}:∀ {l:List α} {m:Nat} {x:α},UpC c l→l[m]?=some x→c x<0→m<bsK c l
 | [],m,x,_,h,_=>by simp at h
 | a::r,0,x,_,h,hc=>by
  simp only[List.getElem?_cons_zero,Option.some.injEq]at h;subst h
  simp -implicitDefEqProofs [bsK,hc]
 | a::r,m+1,x,hu,h,hc=>by
  have ha:c a<0:=hu 0 (m+1) a x (by omega) rfl h hc
  have:=bsK_lt (l:=r) (fun i j a b hij h1 h2=>hu (i+1) (j+1) a b (by omega) (by simpa using h1) (by simpa using h2)) (by simpa using h) hc
  simp only[bsK,List.takeWhile_cons,ha,decide_true,if_true,List.length_cons]at *
  omega
theorem bsK_le {α:Type} {c:α→Int}:∀ {l:List α} {m:Nat} {x:α},l[m]?=some x→¬ c x<0→bsK c l≤m
 | [],m,x,h,_=>by simp at h
 | a::r,0,x,h,hc=>by
  simp only[List.getElem?_cons_zero,Option.some.injEq]at h;subst h
  simp -implicitDefEqProofs [bsK,hc]
 | a::r,m+1,x,h,hc=>by
  have:=bsK_le (l:=r) (c:=c) (by simpa using h) hc
  by_cases ha:c a<0
  ·simp only[bsK,List.takeWhile_cons,ha,decide_true,if_true,List.length_cons]at *;omega
  ·simp[bsK,ha]
theorem bsK_len {α:Type} (c:α→Int) (l:List α):bsK c l≤l.length:=(List.takeWhile_prefix _).length_le
theorem bs_ev {α:Type} {row:α→List AV} {tS tE tU tA sz g:Nat} {a:AV} (hT:RowT row tS tE sz) (hU:ttOf prog tU=some ⟨.int .u64,1,8,[.int .u64 0]⟩) (c:α→Int) (l:List α) (hl:l.length≤9000000) (hs:∀ x∈l,(row x).length=sz) (hu:UpC c l) (hca:clA a=true)
  (hg:∀ x∈l,CV prog g [.agg (row x),a] (.int .i64 (c x))) :
  ev prog ⟨49,[]⟩ (bsA tS tE tU tA) (retQ prog [.tmp 6,.tmp 7] (fun r L'=>r=.tup [.int .i64 (bsK c l),.bool (bsT c l)]∧L'=[])) ⟨argT [.lst sz (l.map row),a,.fn g []],hpOf [],Us.of []⟩:=by
 obtain⟨fs,b,z,hE⟩:=hT.E
 have hS:=hT.S
 obtain⟨K,hK⟩:∃ K,bsK c l=K:=⟨_,rfl⟩
 have hKl:=bsK_len c l
 have hra:=renL_closed (rho []) a hca
 simp -implicitDefEqProofs [bsA,hS]
 refine ev_lp (X:=Nat×Nat) [0,1,2,8,9,10] [] (fun x=>[(9,.int .i64 x.1),(10,.int .i64 x.2)]) (fun _=>[]) (fun x=>x.2-x.1) (fun x=>x.1≤K∧K≤x.2∧x.2≤l.length) (0,l.length) (by simp;omega) ?_ (he:=by simp[hra])
 rintro⟨i,j⟩ ⟨hi,hj,hjl⟩
 simp only at hi hj hjl
 by_cases h1:i<j
 ·obtain⟨m,hm⟩:∃ m,(i+j) / 2=m:=⟨_,rfl⟩
  have e1:=i64w ((i:Int)+j) (by omega) (by omega)
  have e6:IntKind.i64.wrap ((IntKind.u64.wrap ((i:Int)+j)).fdiv (2 ^ min 1 IntKind.u64.bits))=(m:Int):=by
   rw[show IntKind.u64.wrap ((i:Int)+j)=(i:Int)+j from IntWalk.u64_in _ (by omega)]
   rw[show(2:Int) ^ min 1 IntKind.u64.bits=2 from rfl,Int.fdiv_eq_ediv_of_nonneg _ (by omega)]
   rw[qao _ (by omega)];omega
  have e7:=i64w ((m:Int)+1) (by omega) (by omega)
  have hml:m<l.length:=by omega
  obtain⟨x,e0⟩:∃ x,l[m]=x:=⟨_,rfl⟩
  have e5:l[m]?=some x:=by rw[← e0];exact List.getElem?_eq_getElem hml
  have hx:=List.mem_of_getElem? e5
  have hrl:=hs x hx
  have ht:(row x).take sz=row x:=List.take_of_length_le (by omega)
  simp -implicitDefEqProofs [hra,hS,hE,hU,h1,e1,e6,hml,e0,hrl,ht]
  refine(hg x hx).call ?_
  simp -implicitDefEqProofs [e7]
  refine⟨fun hc=>nx (m+1,j) [] ?_ (h4:=by simp[hra]),fun hc=>nx (i,m) [] ?_ (h4:=by simp[hra])⟩
  ·have:=bsK_lt hu e5 hc
   simp only;omega
  ·have:=bsK_le (c:=c) e5 (by omega)
   simp only;omega
 ·have hji:i=j:=by omega
  subst hji
  by_cases h2:i<l.length
  ·obtain⟨x,e0⟩:∃ x,l[i]=x:=⟨_,rfl⟩
   have e5:l[i]?=some x:=by rw[← e0];exact List.getElem?_eq_getElem h2
   have hx:=List.mem_of_getElem? e5
   have hrl:=hs x hx
   have ht:(row x).take sz=row x:=List.take_of_length_le (by omega)
   have hik:i=K:=by omega
   simp -implicitDefEqProofs [hra,hS,hE,h2,e0,hrl,ht]
   refine(hg x hx).call ?_
   simp -implicitDefEqProofs [hK,bsT,← hik,e5]
  ·have hil:i=l.length:=by omega
   have hik:i=K:=by omega
   simp -implicitDefEqProofs [hK,bsT,← hik,hil]
end Go.Av.F

end
section
namespace Go.Av.F
open Go Go.Av Go.Proofs Go.Proofs.Tryz
def qbq (q:Int):List Int→Bool
 | []=>true
 | x::r=>decide (13≤x) && decide (x<120) && decide (q<x) && qbq x r
theorem placesC (l:List Int) (hl:l.length≤1048576):CV prog 40 [.lst 1 (l.map qaw)] (.bool (qbq 12 l)):=by
  obtain⟨R,hR⟩:∃ R,qbq 12 l=R:=⟨_,rfl⟩
  rw[hR]
  refine cvx func40 [] ntmps40 rfl rfl rfl ?_
  simp -implicitDefEqProofs
  refine ev_lp (X:=Nat×Int) [0,3] [] (fun x=>[(3,.int .i64 x.1)]) (fun _=>[]) (fun x=>l.length-x.1)
     (fun x=>x.1≤l.length∧(x.1=0→x.2=12)∧(∀ k,x.1=k+1→l[k]?=some x.2)∧qbq x.2 (l.drop x.1)=R) (0,12) (by simp[hR]) ?_
  rintro⟨i,q⟩ ⟨hi,h0,hp,hd⟩
  simp only at hi h0 hp hd
  cases hr:l.drop i with
  | nil =>
    have:=dropn hr
    rw[hr]at hd
    have hie:i=l.length:=by omega
    simp -implicitDefEqProofs [hie]
    grind[qbq]
  | cons x r =>
    obtain⟨h1,e0,e1,h3⟩:=dropc hr
    rw[hr]at hd
    have e2:=i64w ((i:Int)+1) (by omega) (by omega)
    by_cases hz:i=0
    · subst hz
      simp -implicitDefEqProofs [h1,e0]
      repeat' first
        | with_reducible refine And.intro ?_ ?_
        | with_reducible intro _
      all_goals first
        | exact nx (1,x) [] (by grind[qbq])
        | grind[qbq]
    · obtain⟨k,hk⟩:∃ k,i=k+1:=⟨i-1,by omega⟩
      have f1:=hp k hk
      have h1':k<l.length:=by omega
      have f0:l[k]=q:=by grind
      have e3:(i:Int)-1=k:=by omega
      have e4:=i64w (k:Int) (by omega) (by omega)
      have hpos:0<i:=by omega
      simp -implicitDefEqProofs [h1,e0,h1',f0,e2,e3,e4,hpos]
      repeat' first
        | with_reducible refine And.intro ?_ ?_
        | with_reducible intro _
      all_goals first
        | exact nx (i+1,x) [] (by grind[qbq])
        | grind[qbq]
def csOkB (s:CS):Bool:=nameB s.name && (s.frm.isEmpty || nameB s.frm) && (decide (1≤s.kind) && decide (s.kind≤2)) && ptOkB s.home && s.map.all ptOkB
theorem sName (s:List UInt8) (hs:s.length≤1048576):CV prog 71 [.str s] (.bool (nameB s)):=cv_of (bookName s (by omega))
@[simp] theorem cs0 (s:CS) (h:0<s.row.length):s.row[0]=.str s.name:=by simp[CS.row]
@[simp] theorem cs1 (s:CS) (h:1<s.row.length):s.row[1]=.int .i64 s.kind:=by simp[CS.row]
@[simp] theorem cs2 (s:CS) (h:2<s.row.length):s.row[2]=.str s.frm:=by simp[CS.row]
@[simp] theorem cs0' (s:CS):s.row[0]?=some (.str s.name):=by simp[CS.row]
@[simp] theorem cs1' (s:CS):s.row[1]?=some (.int .i64 s.kind):=by simp[CS.row]
@[simp] theorem cs2' (s:CS):s.row[2]?=some (.str s.frm):=by simp[CS.row]
@[simp] theorem renL_cs (ρ:Nat→Option Plc) (s:CS):renL ρ s.row=s.row:=renL_closed.renL_closedL ρ _ (cs_cl s)
attribute [simp] obOf
theorem cs_home (s:CS) (h8:s.map.length=8):List.take 3 (List.drop 27 s.row)=s.home.row:=by
 have:s.row=(.str s.name::.int .i64 s.kind::.str s.frm::s.map.flatMap PT.row)++(s.home.row++[.bool s.dirty]):=rfl
 have h24:(s.map.flatMap PT.row).length=24:=by rw[flat3,h8]
 rw[this,List.drop_append_of_le_length (by simp only[List.length_cons,h24];omega),List.drop_eq_nil_of_le (by simp only[List.length_cons,h24];omega)]
 rfl
theorem cs_map (s:CS) {i:Nat} {p:PT} (h:s.map[i]?=some p):List.take 3 (List.drop (3+i * 3) s.row)=p.row:=by
 have key:∀ (l:List PT) (r:List AV) (i:Nat),l[i]?=some p→List.take 3 (List.drop (i * 3) (l.flatMap PT.row++r))=p.row:=by
  intro l
  induction l with
  | nil=>intro r i h;simp at h
  | cons a l ih =>
   intro r i h
   cases i with
   | zero=>simp at h;subst h;simp
   | succ i =>
    have:=ih r i (by simpa using h)
    rw[← this]
    simp -implicitDefEqProofs [show(i+1) * 3=i * 3+1+1+1 by omega]
 have:=key s.map (s.home.row++[.bool s.dirty]) i h
 rw[← this]
 show List.take 3 (List.drop (3+i * 3) (_::_::_::_))=_
 rw[show 3+i * 3=i * 3+1+1+1 by omega]
 rfl
theorem sSetC (s:CS) (h8:s.map.length=8) (hn:s.name.length≤1048576) (hf:s.frm.length≤1048576):CV prog 41 [.agg s.row] (.bool (csOkB s)):=by
 obtain⟨R,hR⟩:∃ R,csOkB s=R:=⟨_,rfl⟩
 have hl:=qay s h8
 have hh:=cs_home s h8
 refine cvx func41 [] ntmps41 rfl rfl rfl ?_ (hca:=by simp[cs_cl])
 simp -implicitDefEqProofs [hl]
 refine(sName _ hn).call ?_
 simp -implicitDefEqProofs [hl,hh]
 repeat' first
  | (refine(sName _ hf).call ?_;simp -implicitDefEqProofs [hl,hh])
  | (refine(sPtrOkC _).call ?_;simp -implicitDefEqProofs)
  | with_reducible intro _
  | with_reducible refine And.intro ?_ ?_
 all_goals try (grind[csOkB];done)
 all_goals
  refine ev_lp (X:=Nat) [1,3] [(1,1)] (fun i=>[(3,.int .i64 i)]) (fun _=>[]) (fun i=>8-i) (fun i=>i≤8∧(s.map.drop i).all ptOkB=R) 0 (by simp;grind[csOkB]) ?_
  rintro i ⟨hi,hd⟩
  by_cases h1:i<8
  ·obtain⟨p,e1⟩:∃ p,s.map[i]?=some p:=⟨_,List.getElem?_eq_getElem (by omega)⟩
   have e3:=dropAt e1
   have e2:=i64w ((i:Int)+1) (by omega) (by omega)
   have h1':(i:Int)<8:=by omega
   have h2:3+i * 3≤28:=by omega
   simp -implicitDefEqProofs [h1',cs_map s e1,h2]
   refine(sPtrOkC p).call ?_
   simp -implicitDefEqProofs [e2]
   repeat' first
    | with_reducible intro _
    | with_reducible refine And.intro ?_ ?_
   all_goals first
    | exact nx (i+1) [(1,1)] (by grind)
    | grind
  ·have:i=8:=by omega
   simp -implicitDefEqProofs [this]
   grind
end Go.Av.F

end
