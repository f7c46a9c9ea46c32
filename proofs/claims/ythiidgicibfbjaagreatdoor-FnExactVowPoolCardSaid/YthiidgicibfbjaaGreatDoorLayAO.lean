/- Lemmas for the proof, no statement of the seat; no conditions. -/
import Derived.Test.YthiidgicibfbjaaGreatDoorLayAN
import Derived.Test.YthiidgicibfbjaaGreatDoorProg
set_option linter.unusedSimpArgs false
set_option linter.unusedVariables false
set_option linter.unnecessarySimpa false
set_option maxRecDepth 100000
set_option maxHeartbeats 400000
section
namespace Go.Av.F
open Go Go.Av Go.Proofs Go.Proofs.Tryz
attribute [simp] DE.row PT.row qad
attribute [simp] tt3 tt4 tt5 tt9 qmU qFj qFi qFh qES qFg qqa qzw qwi qzv qC3 qFf qzu qzt qzs qzr qFe qyN qFd qta qqA qm3 qzx qwj qcW qdc qdL qDb qDa qdb qcV qC9 qC8 qcp qqz qqy qqx qqw qC7 qC6 qpp qC5 qC4 qqv
theorem qf0 {f:Nat} {args:List AV} {v:AV} (h:ACall prog f args [] (fun r L'=>r=v∧L'=[])) (he:qb1 prog f=true:=by kernel_rfl) (hca:clL args=true:=by simp) (hcv:clA v=true:=by simp):CV prog f args v:=⟨he,hca,hcv,h⟩
def qcb (e:DE):Bool:=decide (0≤e.es) && decide (e.es<65521) && decide (1≤e.ea) && decide (e.ea<120) && decide (1≤e.ec) && decide (e.ec≤1000)
theorem qq9 (e:DE):CV prog 249 [.agg e.row] (.bool (qcb e)):=by
 refine cvx func249 [] ntmps249 rfl rfl rfl ?_;simp[qcb];grind
def wiB (a b c:Int):Bool:=decide (b≤a) && decide (a≤c)
theorem qcI (a b c:Int):CV prog 173 [.int .i64 a,.int .i64 b,.int .i64 c] (.bool (wiB a b c)):=qf0 (qkc a b c)
theorem qnl (e:DE):CV prog 264 [.agg e.row] (.bool (qcb e)):=by
 refine cvx func264 [] ntmps264 rfl rfl rfl ?_;simp
 repeat' first
  | (refine(qcI ..).call ?_;simp)
  | with_reducible refine And.intro ?_ ?_
  | with_reducible intro _
 all_goals grind[qcb,wiB]
attribute [simp] shL sh1 qfL qyI
@[simp] theorem qEq:qoY prog 67=true:=by
 have g:prog.eqGuardType prog.depth 67=false:=by kernel_rfl
 have s:prog.stoodInHeld 67=false:=by kernel_rfl
 simp[qoY,g,qqh,qul,underlying67,underlying3,s,shL,sh1]
def qaL (p:PT):Bool:=if p.pa=0 then decide (p.ps=0) && decide (p.pb=0) else decide (0<p.pa) && decide (p.pa<120) && decide (0≤p.ps) && decide (p.ps<65521) && decide (0≤p.pb) && decide (p.pb≤1000000)
theorem qdX (p:PT):CV prog 80 [.agg p.row] (.bool (qaL p)):=by
 refine cvx func80 [] ntmps80 rfl rfl rfl ?_;simp
 all_goals grind[qaL]
theorem qiW (p:PT):CV prog 200 [.agg p.row] (.bool (qaL p)):=by
 refine cvx func200 [] ntmps200 rfl rfl rfl ?_;simp
 repeat' first
  | (refine(qcI ..).call ?_;simp)
  | with_reducible refine And.intro ?_ ?_
  | with_reducible intro _
 all_goals grind[qaL,wiB]
def qar (p:PT):Bool:=qaL p && !decide (p.pa=0)
theorem qpB (p:PT):CV prog 93 [.agg p.row] (.bool (qar p)):=by
 refine cvx func93 [] ntmps93 rfl rfl rfl ?_;simp;refine(qiW p).call ?_;simp
 all_goals grind[qar]
def qgv (q:Int):List DE→Bool
 | []=>true
 | x::r=>qcb x && decide (q<x.ea) && qgv x.ea r
def qam (l:List DE):Bool:=decide (l.length≤48) && qgv 0 l
theorem qfQ (l:List DE) (hl:l.length≤1048576):CV prog 164 [.lst 3 (l.map DE.row)] (.bool (qam l)):=by
  obtain⟨R,hR⟩:∃ R,qgv 0 l=R:=⟨_,rfl⟩;refine cvx func164 [] ntmps164 rfl rfl rfl ?_;simp;refine⟨fun h=>by simp[qam];omega,fun h=>?_⟩;refine qbe (X:=Nat×Int) [0,3] [] (fun x=>[(3,.int .i64 x.1)]) (fun _=>[]) (fun x=>l.length-x.1)
     (fun x=>x.1≤l.length∧(x.1=0→x.2=0)∧(∀ k,x.1=k+1→∃ y,l[k]?=some y∧y.ea=x.2)∧qgv x.2 (l.drop x.1)=R) (0,0) (by simp[hR]) ?_
  rintro⟨i,q⟩ ⟨hi,h0,hp,hd⟩;simp only at hi h0 hp hd;cases hr:l.drop i with
  | nil =>
    have:=qaY hr;rw[hr]at hd;have hie:i=l.length:=by omega
    simp[hie];grind[qam,qgv]
  | cons x r =>
    obtain⟨h1,e0,e1,h3⟩:=qaZ hr;rw[hr]at hd;have hxx:qcb x=true→0<x.ea:=by grind[qcb]
    have e2:=qap ((i:Int)+1) (by omega) (by omega);simp[h1,e0];refine(qq9 x).call ?_;by_cases hz:i=0
    · simp[hz]
      exact⟨fun hx=>nx (1,x.ea) [] (by grind[qgv]),fun hx=>by grind[qam,qgv]⟩
    · obtain⟨k,hk⟩:∃ k,i=k+1:=⟨i-1,by omega⟩
      obtain⟨y,f1,f2⟩:=hp k hk;have h1':k<l.length:=by omega
      have f0:l[k]=y:=by grind
      have e3:(i:Int)-1=k:=by omega
      have e4:=qap (k:Int) (by omega) (by omega);have hpos:0<i:=by omega
      simp[h1,e0,h1',f0,e2,e3,e4,hpos];exact⟨fun hx=>⟨fun _=>by grind[qam,qgv],fun _=>nx (i+1,x.ea) [] (by grind[qgv])⟩,fun hx=>by grind[qam,qgv]⟩
theorem qrF (e:DE):∀ x∈e.row,qdn x=true:=fun y hy=>by
 simp only[DE.row,qHq,qHz,or_false]at hy;rcases hy with rfl | rfl | rfl <;> rfl
theorem qkR (l:List DE) (hl:l.length≤1048576):CV prog 185 [.lst 3 (l.map DE.row)] (.bool (qam l)):=by
  obtain⟨R,hR⟩:∃ R,qgv 0 l=R:=⟨_,rfl⟩;refine cvx func185 [(4,[zJ 0 [4] [],zI 1,zI 2,zI 3,zI 4,zI 5,zI 6,zI 7,zI 8,zI 9,zI 10,zI 11,zI 12,zI 13,zJ 14 [4] [],zI 15,zI 16,zI 17])] ntmps185 rfl rfl rfl ?_;simp;refine qbe (X:=Nat×Int) [0,5,6,7] [] (fun x=>[(7,.int .i64 x.1)]) (fun _=>[]) (fun x=>l.length-x.1)
     (fun x=>x.1≤l.length∧(x.1=0→x.2=0)∧(∀ k,x.1=k+1→∃ y,l[k]?=some y∧y.ea=x.2)∧qgv x.2 (l.drop x.1)=R) (0,0) (by simp[hR]) ?_
  rintro⟨i,q⟩ ⟨hi,h0,hp,hd⟩;simp only at hi h0 hp hd;cases hr:l.drop i with
  | nil =>
    have:=qaY hr;rw[hr]at hd;have hie:i=l.length:=by omega
    simp[hie];grind[qam,qgv]
  | cons x r =>
    obtain⟨h1,e0,e1,h3⟩:=qaZ hr;rw[hr]at hd;have hxx:qcb x=true→0<x.ea:=by grind[qcb]
    have e2:=qap ((i:Int)+1) (by omega) (by omega);have hf:R=false→qam l=false:=by grind[qam]
    by_cases hz:i=0
    · subst hz
      simp[h1,e0,e1];refine(qnl x).call ?_;simp;exact⟨fun hx=>nx (1,x.ea) [] (by grind[qgv]),fun hx=>by grind[qgv]⟩
    · obtain⟨k,hk⟩:∃ k,i=k+1:=⟨i-1,by omega⟩
      obtain⟨y,f1,f2⟩:=hp k hk;have h1':k<l.length:=by omega
      have f0:l[k]=y:=by grind
      have e3:(i:Int)-1=k:=by omega
      have e4:=qap (k:Int) (by omega) (by omega);have hpos:0<i:=by omega
      simp[h1,e0,e1];refine(qnl x).call ?_;simp[h1,e0,h1',f0,e2,e3,e4,hpos]
      repeat' first
        | with_reducible intro _
        | with_reducible refine And.intro ?_ ?_
      all_goals first
        | exact nx (i+1,x.ea) [] (by grind[qgv])
        | grind[qgv]
structure RowT {α:Type} (row:α→List AV) (tS tE sz:Nat):Prop where
 S:qaA prog tS=some ⟨.slc tE,1,24,[.nils]⟩
 E:∃ fs b z,qaA prog tE=some ⟨.srt fs,sz,b,z⟩
 cl:∀ x,clL (row x)=true
def ixA (tS tE:Nat):ACode :=
  .seq (.reg [⟨none,some 4,(Op.assign (Operand.const (Value.int IntKind.i64 0)))⟩])
  (.seq (.seq (.reg [⟨none,some 6,(Op.move (Operand.tmp 0))⟩,
       ⟨none,some 7,(Op.call ⟨(Callee.builtin Builtin.len),#[(Operand.tmp 6)],#[tS]⟩)⟩,
       ⟨none,some 8,(Op.move (Operand.const (Value.int IntKind.i64 0)))⟩])
    (.block 0 (.loop
  (.seq (.reg [⟨none,some 9,(Op.binOp BinOp.lss 3 (Operand.tmp 8) (Operand.tmp 7) 3)⟩])
  (.seq (.cond (Operand.tmp 9) (.skip) (.exit 0))
   (.seq (.block 1 (.seq (.reg [⟨none,some 10,(Op.move (Operand.tmp 8))⟩,
         ⟨none,some 5,(Op.assign (Operand.tmp 10))⟩])
      (.seq (.reg [⟨none,some 11,(Op.move (Operand.tmp 1))⟩,
          ⟨none,some 12,(Op.move (Operand.tmp 0))⟩,
          ⟨none,some 13,(Op.move (Operand.tmp 5))⟩,
          ⟨none,some 14,(Op.indexAddr tS (Operand.tmp 12) (Operand.tmp 13))⟩,
          ⟨none,some 15,(Op.load tE (Operand.tmp 14))⟩,
          ⟨none,some 16,(Op.call ⟨(Callee.value (Operand.tmp 11)),#[(Operand.tmp 15)],#[tE]⟩)⟩])
       (.cond (Operand.tmp 16) (.seq (.reg [⟨none,some 17,(Op.move (Operand.tmp 5))⟩,
            ⟨none,some 4,(Op.assign (Operand.tmp 17))⟩])
         (.ret)) (.skip)))))
    (.reg [⟨none,some 18,(Op.binOp BinOp.add 3 (Operand.tmp 8) (Operand.const (Value.int IntKind.i64 1)) 3)⟩,
       ⟨none,some 8,(Op.move (Operand.tmp 18))⟩])))))))
   (.seq (.reg [⟨none,some 4,(Op.assign (Operand.const (Value.int IntKind.i64 (-1))))⟩])
    (.ret)))
def ixR {α:Type} (p:α→Bool) (i:Nat):List α→Int
 | []=>-1
 | x::r=>if p x=true then i else ixR p (i+1) r
theorem qoK {α:Type} (p:α→Bool):∀ (l:List α) (i:Nat),decide (0≤ixR p i l)=l.any p
 | [],i=>rfl
 | x::r,i=>by
  have:=qoK p r (i+1);cases h:p x with
  | true=>simp[ixR,h]
  | false=>simpa [ixR,h]using this
theorem qA6 {α:Type} {row:α→List AV} {tS tE sz g:Nat} (hT:RowT row tS tE sz) (p:α→Bool) (l:List α) (hl:l.length≤9000000) (hs:∀ x∈l,(row x).length=sz)
  (hg:∀ x∈l,CV prog g [.agg (row x)] (.bool (p x))) :
  ev prog ⟨19,[]⟩ (ixA tS tE) (qof prog [.tmp 4] (fun r L'=>r=.int .i64 (ixR p 0 l)∧L'=[])) ⟨qsT [.lst sz (l.map row),.fn g []],qaQ [],Us.of []⟩:=by
 obtain⟨fs,b,z,hE⟩:=hT.E;have hS:=hT.S;obtain⟨R,hR⟩:∃ R,ixR p 0 l=R:=⟨_,rfl⟩;rw[hR];simp[ixA,hS,hE];refine qbe (X:=Nat) [0,1,7,8] [] (fun i=>[(8,.int .i64 i)]) (fun _=>[]) (fun i=>l.length-i) (fun i=>i≤l.length∧ixR p i (l.drop i)=R) 0 (by simp[hR]) ?_;rintro i ⟨hi,hd⟩;cases hr:l.drop i with
 | nil =>
  have:=qaY hr;rw[hr]at hd;have hie:i=l.length:=by omega
  simp[hie];grind[ixR]
 | cons x r =>
  obtain⟨h1,e0,e1,h3⟩:=qaZ hr;rw[hr]at hd;have hx:=qHT e1;have e2:=qap ((i:Int)+1) (by omega) (by omega);have hrl:=hs x hx;have ht:(row x).take sz=row x:=qGh (by omega);simp[hS,hE,h1,e0,e1,hrl,ht];refine(hg x hx).call ?_;simp[e2];exact⟨fun hp=>by grind[ixR],fun hp=>nx (i+1) [] (by grind[ixR])⟩
def bsA (tS tE tU tA:Nat):ACode :=
  .seq (.reg [⟨none,some 6,(Op.assign (Operand.const (Value.int IntKind.i64 0)))⟩,
     ⟨none,some 7,(Op.assign (Operand.const (Value.bool false)))⟩])
  (.seq (.reg [⟨none,some 12,(Op.move (Operand.tmp 0))⟩,
      ⟨none,some 13,(Op.call ⟨(Callee.builtin Builtin.len),#[(Operand.tmp 12)],#[tS]⟩)⟩,
      ⟨none,some 8,(Op.assign (Operand.tmp 13))⟩])
   (.seq (.reg [⟨none,some 14,(Op.move (Operand.tmp 8))⟩,
       ⟨none,some 9,(Op.assign (Operand.const (Value.int IntKind.i64 0)))⟩,
       ⟨none,some 10,(Op.assign (Operand.tmp 14))⟩])
    (.seq (.block 0 (.loop
  (.seq (.seq (.reg [⟨none,some 15,(Op.move (Operand.tmp 9))⟩,
      ⟨none,some 16,(Op.move (Operand.tmp 10))⟩,
      ⟨none,some 17,(Op.binOp BinOp.lss 3 (Operand.tmp 15) (Operand.tmp 16) 3)⟩])
   (.cond (Operand.tmp 17) (.skip) (.exit 0)))
  (.block 1 (.seq (.reg [⟨none,some 18,(Op.move (Operand.tmp 9))⟩,
       ⟨none,some 19,(Op.move (Operand.tmp 10))⟩,
       ⟨none,some 20,(Op.binOp BinOp.add 3 (Operand.tmp 18) (Operand.tmp 19) 3)⟩,
       ⟨none,some 21,(Op.convert 3 tU (Operand.tmp 20))⟩,
       ⟨none,some 22,(Op.binOp BinOp.shr tU (Operand.tmp 21) (Operand.const (Value.int IntKind.u64 1)) tU)⟩,
       ⟨none,some 23,(Op.convert tU 3 (Operand.tmp 22))⟩,
       ⟨none,some 11,(Op.assign (Operand.tmp 23))⟩])
    (.seq (.reg [⟨none,some 24,(Op.move (Operand.tmp 2))⟩,
        ⟨none,some 25,(Op.move (Operand.tmp 0))⟩,
        ⟨none,some 26,(Op.move (Operand.tmp 11))⟩,
        ⟨none,some 27,(Op.indexAddr tS (Operand.tmp 25) (Operand.tmp 26))⟩,
        ⟨none,some 28,(Op.load tE (Operand.tmp 27))⟩,
        ⟨none,some 29,(Op.move (Operand.tmp 1))⟩,
        ⟨none,some 30,(Op.call ⟨(Callee.value (Operand.tmp 24)),#[(Operand.tmp 28),(Operand.tmp 29)],#[tE,tA]⟩)⟩,
        ⟨none,some 31,(Op.binOp BinOp.lss 3 (Operand.tmp 30) (Operand.const (Value.int IntKind.i64 0)) 3)⟩])
     (.cond (Operand.tmp 31) (.reg [⟨none,some 32,(Op.move (Operand.tmp 11))⟩,
         ⟨none,some 33,(Op.binOp BinOp.add 3 (Operand.tmp 32) (Operand.const (Value.int IntKind.i64 1)) 3)⟩,
         ⟨none,some 9,(Op.assign (Operand.tmp 33))⟩]) (.reg [⟨none,some 34,(Op.move (Operand.tmp 11))⟩,
         ⟨none,some 10,(Op.assign (Operand.tmp 34))⟩]))))))))
     (.seq (.reg [⟨none,some 35,(Op.move (Operand.tmp 9))⟩,
         ⟨none,some 36,(Op.move (Operand.tmp 9))⟩,
         ⟨none,some 37,(Op.move (Operand.tmp 8))⟩,
         ⟨none,some 38,(Op.binOp BinOp.lss 3 (Operand.tmp 36) (Operand.tmp 37) 3)⟩,
         ⟨none,some 39,(Op.move (Operand.tmp 38))⟩,
         ⟨some (39,true),some 40,(Op.move (Operand.tmp 2))⟩,
         ⟨some (39,true),some 41,(Op.move (Operand.tmp 0))⟩,
         ⟨some (39,true),some 42,(Op.move (Operand.tmp 9))⟩,
         ⟨some (39,true),some 43,(Op.indexAddr tS (Operand.tmp 41) (Operand.tmp 42))⟩,
         ⟨some (39,true),some 44,(Op.load tE (Operand.tmp 43))⟩,
         ⟨some (39,true),some 45,(Op.move (Operand.tmp 1))⟩,
         ⟨some (39,true),some 46,(Op.call ⟨(Callee.value (Operand.tmp 40)),#[(Operand.tmp 44),(Operand.tmp 45)],#[tE,tA]⟩)⟩,
         ⟨some (39,true),some 47,(Op.binOp BinOp.eql 3 (Operand.tmp 46) (Operand.const (Value.int IntKind.i64 0)) 3)⟩,
         ⟨none,some 48,(Op.pick (Operand.tmp 39) (Operand.tmp 47) (Operand.const (Value.bool false)))⟩,
         ⟨none,some 6,(Op.assign (Operand.tmp 35))⟩,
         ⟨none,some 7,(Op.assign (Operand.tmp 48))⟩])
      (.ret)))))
def bsK {α:Type} (c:α→Int) (l:List α):Nat:=(l.takeWhile fun x=>decide (c x<0)).length
def bsT {α:Type} (c:α→Int) (l:List α):Bool:=match l[bsK c l]? with
 | some x=>c x == 0
 | none=>false
def UpC {α:Type} (c:α→Int) (l:List α):Prop:=∀ (i j:Nat) (a b:α),i<j→l[i]?=some a→l[j]?=some b→c b<0→c a<0
theorem qmM {α:Type} {c:α→Int}:∀ {l:List α} {m:Nat} {x:α},UpC c l→l[m]?=some x→c x<0→m<bsK c l
 | [],m,x,_,h,_=>by simp at h
 | a::r,0,x,_,h,hc=>by
  simp only[qF5,qFQ]at h;subst h;simp[bsK,qIr,hc]
 | a::r,m+1,x,hu,h,hc=>by
  have ha:c a<0:=hu 0 (m+1) a x (by omega) rfl h hc;have:=qmM (l:=r) (fun i j a b hij h1 h2=>hu (i+1) (j+1) a b (by omega) (by simpa using h1) (by simpa using h2)) (by simpa using h) hc;simp only[bsK,qIr,ha,decide_true,if_true,qGk]at *
  omega
theorem qj8 {α:Type} {c:α→Int}:∀ {l:List α} {m:Nat} {x:α},l[m]?=some x→¬ c x<0→bsK c l≤m
 | [],m,x,h,_=>by simp at h
 | a::r,0,x,h,hc=>by
  simp only[qF5,qFQ]at h;subst h;simp[bsK,qIr,hc]
 | a::r,m+1,x,h,hc=>by
  have:=qj8 (l:=r) (c:=c) (by simpa using h) hc;by_cases ha:c a<0
  ·simp only[bsK,qIr,ha,decide_true,if_true,qGk]at *;omega
  ·simp[bsK,qIr,ha]
theorem qnL {α:Type} (c:α→Int) (l:List α):bsK c l≤l.length:=(qIs _).length_le
theorem qB3 {α:Type} {row:α→List AV} {tS tE tU tA sz g:Nat} {a:AV} (hT:RowT row tS tE sz) (hU:qaA prog tU=some ⟨.int .u64,1,8,[.int .u64 0]⟩) (c:α→Int) (l:List α) (hl:l.length≤9000000) (hs:∀ x∈l,(row x).length=sz) (hu:UpC c l) (hca:clA a=true)
  (hg:∀ x∈l,CV prog g [.agg (row x),a] (.int .i64 (c x))) :
  ev prog ⟨49,[]⟩ (bsA tS tE tU tA) (qof prog [.tmp 6,.tmp 7] (fun r L'=>r=.tup [.int .i64 (bsK c l),.bool (bsT c l)]∧L'=[])) ⟨qsT [.lst sz (l.map row),a,.fn g []],qaQ [],Us.of []⟩:=by
 obtain⟨fs,b,z,hE⟩:=hT.E;have hS:=hT.S;obtain⟨K,hK⟩:∃ K,bsK c l=K:=⟨_,rfl⟩;have hKl:=qnL c l;have hra:=renL_closed (rho []) a hca;simp[bsA,hS,hE];refine qbe (X:=Nat×Nat) [0,1,2,8,9,10] [] (fun x=>[(9,.int .i64 x.1),(10,.int .i64 x.2)]) (fun _=>[]) (fun x=>x.2-x.1) (fun x=>x.1≤K∧K≤x.2∧x.2≤l.length) (0,l.length) (by simp;omega) ?_ (he:=by simp[hra]);rintro⟨i,j⟩ ⟨hi,hj,hjl⟩;simp only at hi hj hjl;by_cases h1:i<j
 ·obtain⟨m,hm⟩:∃ m,(i+j) / 2=m:=⟨_,rfl⟩;have e1:=qap ((i:Int)+j) (by omega) (by omega);have e6:IntKind.i64.wrap ((IntKind.u64.wrap ((i:Int)+j)).fdiv (2 ^ min 1 IntKind.u64.bits))=(m:Int):=by
   rw[show IntKind.u64.wrap ((i:Int)+j)=(i:Int)+j from IntWalk.u64_in _ (by omega)];rw[show(2:Int) ^ min 1 IntKind.u64.bits=2 from rfl,qH8 _ (by omega)];rw[qax _ (by omega)];omega
  have e7:=qap ((m:Int)+1) (by omega) (by omega);have hml:m<l.length:=by omega
  obtain⟨x,e0⟩:∃ x,l[m]=x:=⟨_,rfl⟩;have e5:l[m]?=some x:=by rw[← e0];exact qF3 hml
  have hx:=qHT e5;have hrl:=hs x hx;have ht:(row x).take sz=row x:=qGh (by omega);simp[hra,hS,hE,hU,h1,e1,e6,hml,e0,e5,hrl,ht];refine(hg x hx).call ?_;simp[e7];refine⟨fun hc=>nx (m+1,j) [] ?_ (h4:=by simp[hra]),fun hc=>nx (i,m) [] ?_ (h4:=by simp[hra])⟩
  ·have:=qmM hu e5 hc;simp only;omega
  ·have:=qj8 (c:=c) e5 (by omega);simp only;omega
 ·have hji:i=j:=by omega
  subst hji;by_cases h2:i<l.length
  ·obtain⟨x,e0⟩:∃ x,l[i]=x:=⟨_,rfl⟩;have e5:l[i]?=some x:=by rw[← e0];exact qF3 h2
   have hx:=qHT e5;have hrl:=hs x hx;have ht:(row x).take sz=row x:=qGh (by omega);have hik:i=K:=by omega
   simp[hra,hS,hE,h2,e0,e5,hrl,ht];refine(hg x hx).call ?_;simp[hK,bsT,← hik,e5]
  ·have hil:i=l.length:=by omega
   have hik:i=K:=by omega
   simp[hS,hE,hK,bsT,← hik,hil]
def qbw (q:Int):List Int→Bool
 | []=>true
 | x::r=>decide (13≤x) && decide (x<120) && decide (q<x) && qbw x r
theorem qxm (l:List Int) (hl:l.length≤1048576):CV prog 165 [.lst 1 (l.map qad)] (.bool (qbw 12 l)):=by
  obtain⟨R,hR⟩:∃ R,qbw 12 l=R:=⟨_,rfl⟩;rw[hR];refine cvx func165 [] ntmps165 rfl rfl rfl ?_;simp -implicitDefEqProofs;refine qbe (X:=Nat×Int) [0,3] [] (fun x=>[(3,.int .i64 x.1)]) (fun _=>[]) (fun x=>l.length-x.1)
     (fun x=>x.1≤l.length∧(x.1=0→x.2=12)∧(∀ k,x.1=k+1→l[k]?=some x.2)∧qbw x.2 (l.drop x.1)=R) (0,12) (by simp[hR]) ?_
  rintro⟨i,q⟩ ⟨hi,h0,hp,hd⟩;simp only at hi h0 hp hd;cases hr:l.drop i with
  | nil =>
    have:=qaY hr;rw[hr]at hd;have hie:i=l.length:=by omega
    simp -implicitDefEqProofs [hie];grind[qbw]
  | cons x r =>
    obtain⟨h1,e0,e1,h3⟩:=qaZ hr;rw[hr]at hd;have e2:=qap ((i:Int)+1) (by omega) (by omega);by_cases hz:i=0
    · subst hz
      simp -implicitDefEqProofs [h1,e0,e1]
      repeat' first
        | with_reducible refine And.intro ?_ ?_
        | with_reducible intro _
      all_goals first
        | exact nx (1,x) [] (by grind[qbw])
        | grind[qbw]
    · obtain⟨k,hk⟩:∃ k,i=k+1:=⟨i-1,by omega⟩
      have f1:=hp k hk;have h1':k<l.length:=by omega
      have f0:l[k]=q:=by grind
      have e3:(i:Int)-1=k:=by omega
      have e4:=qap (k:Int) (by omega) (by omega);have hpos:0<i:=by omega
      simp -implicitDefEqProofs [h1,e0,h1',f0,e2,e3,e4,hpos]
      repeat' first
        | with_reducible refine And.intro ?_ ?_
        | with_reducible intro _
      all_goals first
        | exact nx (i+1,x) [] (by grind[qbw])
        | grind[qbw]
def qbp (s:CS):Bool:=qbR s.name && (s.frm.isEmpty || qbR s.frm) && (decide (1≤s.kind) && decide (s.kind≤2)) && qaL s.home && s.map.all qaL
theorem qw1 (s:List UInt8) (hs:s.length≤1048576):CV prog 246 [.str s] (.bool (qbR s)):=qf0 (qlm s (by omega))
@[simp] theorem cs0 (s:CS) (h:0<s.row.length):s.row[0]=.str s.name:=by simp[CS.row]
@[simp] theorem cs1 (s:CS) (h:1<s.row.length):s.row[1]=.int .i64 s.kind:=by simp[CS.row]
@[simp] theorem cs2 (s:CS) (h:2<s.row.length):s.row[2]=.str s.frm:=by simp[CS.row]
@[simp] theorem qFK (s:CS):s.row[0]?=some (.str s.name):=by simp[CS.row]
@[simp] theorem qFJ (s:CS):s.row[1]?=some (.int .i64 s.kind):=by simp[CS.row]
@[simp] theorem qFI (s:CS):s.row[2]?=some (.str s.frm):=by simp[CS.row]
@[simp] theorem qDF (ρ:Nat→Option Plc) (s:CS):qb6 ρ s.row=s.row:=renL_closed.renL_closedL ρ _ (qa1 s)
attribute [simp] qah
theorem qc2 (s:CS) (h8:s.map.length=8):List.take 3 (List.drop 27 s.row)=s.home.row:=by
 have:s.row=(.str s.name::.int .i64 s.kind::.str s.frm::s.map.flatMap PT.row)++(s.home.row++[.bool s.dirty]):=rfl;have h24:(s.map.flatMap PT.row).length=24:=by rw[qhO,h8]
 rw[this,qHg (by simp only[qGk,h24];omega),qHL (by simp only[qGk,h24];omega)];rfl
theorem qjc (s:CS) {i:Nat} {p:PT} (h:s.map[i]?=some p):List.take 3 (List.drop (3+i * 3) s.row)=p.row:=by
 have key:∀ (l:List PT) (r:List AV) (i:Nat),l[i]?=some p→List.take 3 (List.drop (i * 3) (l.flatMap PT.row++r))=p.row:=by
  intro l
  induction l with
  | nil=>intro r i h;simp at h
  | cons a l ih =>
   intro r i h;cases i with
   | zero=>simp at h;subst h;simp
   | succ i =>
    have:=ih r i (by simpa using h);rw[← this];simp -implicitDefEqProofs [show(i+1) * 3=i * 3+1+1+1 by omega]
 have:=key s.map (s.home.row++[.bool s.dirty]) i h;rw[← this];show List.take 3 (List.drop (3+i * 3) (_::_::_::_))=_;rw[show 3+i * 3=i * 3+1+1+1 by omega];rfl
theorem qz2 (s:CS) (h8:s.map.length=8) (hn:s.name.length≤1048576) (hf:s.frm.length≤1048576):CV prog 166 [.agg s.row] (.bool (qbp s)):=by
 obtain⟨R,hR⟩:∃ R,qbp s=R:=⟨_,rfl⟩;have hl:=qaC s h8;have hh:=qc2 s h8;refine cvx func166 [] ntmps166 rfl rfl rfl ?_ (hca:=by simp[qa1]);simp -implicitDefEqProofs [hl,hh];refine(qw1 _ hn).call ?_;simp -implicitDefEqProofs [hl,hh]
 repeat' first
  | (refine(qw1 _ hf).call ?_;simp -implicitDefEqProofs [hl,hh])
  | (refine(qdX _).call ?_;simp -implicitDefEqProofs [hl,hh])
  | with_reducible intro _
  | with_reducible refine And.intro ?_ ?_
 all_goals try (grind[qbp];done)
 all_goals
  refine qbe (X:=Nat) [1,3] [(1,1)] (fun i=>[(3,.int .i64 i)]) (fun _=>[]) (fun i=>8-i) (fun i=>i≤8∧(s.map.drop i).all qaL=R) 0 (by simp;grind[qbp]) ?_;rintro i ⟨hi,hd⟩;by_cases h1:i<8
  ·obtain⟨p,e1⟩:∃ p,s.map[i]?=some p:=⟨_,qF3 (by omega)⟩;have e3:=qfI e1;have e2:=qap ((i:Int)+1) (by omega) (by omega);have h1':(i:Int)<8:=by omega
   have h2:3+i * 3≤28:=by omega
   simp -implicitDefEqProofs [h1,h1',hl,qjc s e1,h2];refine(qdX p).call ?_;simp -implicitDefEqProofs [e2]
   repeat' first
    | with_reducible intro _
    | with_reducible refine And.intro ?_ ?_
   all_goals first
    | exact nx (i+1) [(1,1)] (by grind)
    | grind
  ·have:i=8:=by omega
   simp -implicitDefEqProofs [this];grind
end Go.Av.F
end
