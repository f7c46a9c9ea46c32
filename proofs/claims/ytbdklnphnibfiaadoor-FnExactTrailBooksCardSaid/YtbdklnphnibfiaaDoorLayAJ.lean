/- Lemmas for the proof, no statement of the seat; no conditions. -/
import Derived.Test.YtbdklnphnibfiaaDoorLayAI
import Derived.Test.YtbdklnphnibfiaaDoorProg
import Derived.Below
import Derived.WalkKit
set_option linter.unusedSimpArgs false
set_option linter.unusedVariables false
set_option linter.unnecessarySimpa false
set_option maxRecDepth 100000
section
namespace Go.Av.F
open Go.Av
theorem tt3:ttOf Go.Proofs.Tryd.prog 3=some ⟨(.int .i64),1,8,[.int .i64 (0)]⟩:=by kernel_rfl
theorem tt4:ttOf Go.Proofs.Tryd.prog 4=some ⟨.bool,1,1,[.bool false]⟩:=by kernel_rfl
theorem tt5:ttOf Go.Proofs.Tryd.prog 5=some ⟨(.int .u8),1,1,[.int .u8 (0)]⟩:=by kernel_rfl
theorem tt9:ttOf Go.Proofs.Tryd.prog 9=some ⟨.str,1,16,[.str []]⟩:=by kernel_rfl
theorem tt22:ttOf Go.Proofs.Tryd.prog 22=some ⟨(.slc 80),1,24,[.nils]⟩:=by kernel_rfl
theorem tt24:ttOf Go.Proofs.Tryd.prog 24=some ⟨(.srt [(0,22)]),1,24,[.nils]⟩:=by kernel_rfl
theorem tt25:ttOf Go.Proofs.Tryd.prog 25=some ⟨(.slc 61),1,24,[.nils]⟩:=by kernel_rfl
theorem tt27:ttOf Go.Proofs.Tryd.prog 27=some ⟨(.srt [(0,24),(1,25),(2,3)]),3,56,[.nils,.nils,.int .i64 (0)]⟩:=by kernel_rfl
theorem tt29:ttOf Go.Proofs.Tryd.prog 29=some ⟨(.slc 33),1,24,[.nils]⟩:=by kernel_rfl
theorem tt31:ttOf Go.Proofs.Tryd.prog 31=some ⟨(.slc 64),1,24,[.nils]⟩:=by kernel_rfl
theorem tt33:ttOf Go.Proofs.Tryd.prog 33=some ⟨(.srt [(0,31)]),1,24,[.nils]⟩:=by kernel_rfl
theorem tt34:ttOf Go.Proofs.Tryd.prog 34=some ⟨(.slc 53),1,24,[.nils]⟩:=by kernel_rfl
theorem tt36:ttOf Go.Proofs.Tryd.prog 36=some ⟨(.srt [(0,33),(1,34),(2,3)]),3,56,[.nils,.nils,.int .i64 (0)]⟩:=by kernel_rfl
theorem tt53:ttOf Go.Proofs.Tryd.prog 53=some ⟨(.srt [(0,3),(1,9),(2,9),(3,3),(4,9)]),5,64,[.int .i64 (0),.str [],.str [],.int .i64 (0),.str []]⟩:=by kernel_rfl
theorem tt61:ttOf Go.Proofs.Tryd.prog 61=some ⟨(.srt [(0,3),(1,9),(2,9),(3,3),(4,9)]),5,64,[.int .i64 (0),.str [],.str [],.int .i64 (0),.str []]⟩:=by kernel_rfl
theorem tt62:ttOf Go.Proofs.Tryd.prog 62=some ⟨(.arr 8 9),8,128,[.str [],.str [],.str [],.str [],.str [],.str [],.str [],.str []]⟩:=by kernel_rfl
theorem tt64:ttOf Go.Proofs.Tryd.prog 64=some ⟨(.srt [(0,9),(1,3),(2,9),(3,62)]),11,168,[.str [],.int .i64 (0),.str [],.str [],.str [],.str [],.str [],.str [],.str [],.str [],.str []]⟩:=by kernel_rfl
theorem tt71:ttOf Go.Proofs.Tryd.prog 71=some ⟨(.slc 9),1,24,[.nils]⟩:=by kernel_rfl
theorem tt80:ttOf Go.Proofs.Tryd.prog 80=some ⟨(.srt [(0,9),(1,3),(2,9),(3,62)]),11,168,[.str [],.int .i64 (0),.str [],.str [],.str [],.str [],.str [],.str [],.str [],.str [],.str []]⟩:=by kernel_rfl
theorem tt94:ttOf Go.Proofs.Tryd.prog 94=some ⟨(.slc 5),1,24,[.nils]⟩:=by kernel_rfl
theorem tt103:ttOf Go.Proofs.Tryd.prog 103=some ⟨(.arr 256 4),256,256,List.replicate 256 (.bool false)⟩:=by kernel_rfl
theorem tt119:ttOf Go.Proofs.Tryd.prog 119=some ⟨(.int .u64),1,8,[.int .u64 (0)]⟩:=by kernel_rfl
end Go.Av.F
end
section
namespace Go.Av.F
open Go Go.Av
set_option linter.constructorNameAsVariable false
def ac15_l1:ACode :=
  .seq (.seq (.reg [⟨none,some 53,(Op.move (Operand.tmp 5))⟩,
      ⟨none,some 54,(Op.binOp BinOp.lss 3 (Operand.tmp 53) (Operand.const (Value.int IntKind.i64 8)) 3)⟩])
   (.cond (Operand.tmp 54) (.skip) (.exit 2)))
  (.seq (.block 3 (.seq (.reg [⟨none,some 57,(Op.move (Operand.tmp 5))⟩,
        ⟨none,some 58,(Op.fieldAddr 64 (Operand.tmp 4) 3)⟩,
        ⟨none,some 59,(Op.indexAddr 62 (Operand.tmp 58) (Operand.tmp 57))⟩,
        ⟨none,some 60,(Op.load 9 (Operand.tmp 59))⟩,
        ⟨none,some 61,(Op.call ⟨(Callee.builtin Builtin.len),#[(Operand.tmp 60)],#[9]⟩)⟩,
        ⟨none,some 62,(Op.binOp BinOp.gtr 3 (Operand.tmp 61) (Operand.const (Value.int IntKind.i64 24)) 3)⟩])
     (.cond (Operand.tmp 62) (.seq (.reg [⟨none,some 2,(Op.assign (Operand.const (Value.bool false)))⟩])
       (.ret)) (.skip))))
   (.reg [⟨none,some 55,(Op.move (Operand.tmp 5))⟩,
      ⟨none,some 56,(Op.binOp BinOp.add 3 (Operand.tmp 55) (Operand.const (Value.int IntKind.i64 1)) 3)⟩,
      ⟨none,some 5,(Op.assign (Operand.tmp 56))⟩]))
def ac15_l0:ACode :=
  .seq (.seq (.reg [⟨none,some 11,(Op.move (Operand.tmp 3))⟩,
      ⟨none,some 12,(Op.fieldAddr 33 (Operand.tmp 1) 0)⟩,
      ⟨none,some 13,(Op.load 31 (Operand.tmp 12))⟩,
      ⟨none,some 14,(Op.call ⟨(Callee.builtin Builtin.len),#[(Operand.tmp 13)],#[31]⟩)⟩,
      ⟨none,some 15,(Op.binOp BinOp.lss 3 (Operand.tmp 11) (Operand.tmp 14) 3)⟩])
   (.cond (Operand.tmp 15) (.skip) (.exit 0)))
  (.seq (.block 1 (.seq (.reg [⟨none,some 18,(Op.fieldAddr 33 (Operand.tmp 1) 0)⟩,
        ⟨none,some 19,(Op.load 31 (Operand.tmp 18))⟩,
        ⟨none,some 20,(Op.move (Operand.tmp 3))⟩,
        ⟨none,some 21,(Op.indexAddr 31 (Operand.tmp 19) (Operand.tmp 20))⟩,
        ⟨none,some 22,(Op.load 64 (Operand.tmp 21))⟩,
        ⟨none,some 4,(Op.alloc 64)⟩,
        ⟨none,none,(Op.store 64 (Operand.tmp 4) (Operand.tmp 22))⟩])
     (.seq (.seq (.draw [⟨⟨none,some 23,(Op.fieldAddr 64 (Operand.tmp 4) 0)⟩,[],[],[]⟩,
          ⟨⟨none,some 24,(Op.load 9 (Operand.tmp 23))⟩,[4],[],[]⟩,
          ⟨⟨none,some 25,(Op.call ⟨(Callee.value (Operand.func 31)),#[(Operand.tmp 24)],#[9]⟩)⟩,[],[],[]⟩,
          ⟨⟨none,some 26,(Op.unOp UnOp.not 4 (Operand.tmp 25))⟩,[],[],[]⟩,
          ⟨⟨none,some 27,(Op.move (Operand.tmp 26))⟩,[],[],[]⟩,
          ⟨⟨some (27,false),some 28,(Op.move (Operand.tmp 3))⟩,[],[],[]⟩,
          ⟨⟨some (27,false),some 29,(Op.binOp BinOp.gtr 3 (Operand.tmp 28) (Operand.const (Value.int IntKind.i64 0)) 3)⟩,[],[],[]⟩,
          ⟨⟨some (27,false),some 30,(Op.move (Operand.tmp 29))⟩,[],[],[]⟩,
          ⟨⟨some (30,true),some 31,(Op.fieldAddr 64 (Operand.tmp 4) 0)⟩,[],[],[]⟩,
          ⟨⟨some (30,true),some 32,(Op.load 9 (Operand.tmp 31))⟩,[4],[],[]⟩,
          ⟨⟨some (30,true),some 33,(Op.fieldAddr 33 (Operand.tmp 1) 0)⟩,[],[4],[]⟩,
          ⟨⟨some (30,true),some 34,(Op.load 31 (Operand.tmp 33))⟩,[1],[4],[]⟩,
          ⟨⟨some (30,true),some 35,(Op.move (Operand.tmp 3))⟩,[],[4,1],[]⟩,
          ⟨⟨some (30,true),some 36,(Op.binOp BinOp.sub 3 (Operand.tmp 35) (Operand.const (Value.int IntKind.i64 1)) 3)⟩,[],[4,1],[]⟩,
          ⟨⟨some (30,true),some 37,(Op.indexAddr 31 (Operand.tmp 34) (Operand.tmp 36))⟩,[],[4],[]⟩,
          ⟨⟨some (30,true),some 38,(Op.fieldAddr 64 (Operand.tmp 37) 0)⟩,[],[4],[]⟩,
          ⟨⟨some (30,true),some 39,(Op.load 9 (Operand.tmp 38))⟩,[],[4],[]⟩,
          ⟨⟨some (30,true),some 40,(Op.binOp BinOp.leq 9 (Operand.tmp 32) (Operand.tmp 39) 9)⟩,[],[],[]⟩,
          ⟨⟨some (27,false),some 41,(Op.pick (Operand.tmp 30) (Operand.tmp 40) (Operand.const (Value.bool false)))⟩,[],[],[]⟩,
          ⟨⟨none,some 42,(Op.pick (Operand.tmp 27) (Operand.const (Value.bool true)) (Operand.tmp 41))⟩,[],[],[]⟩,
          ⟨⟨none,some 43,(Op.move (Operand.tmp 42))⟩,[],[],[]⟩,
          ⟨⟨some (43,false),some 44,(Op.fieldAddr 64 (Operand.tmp 4) 1)⟩,[],[],[]⟩,
          ⟨⟨some (43,false),some 45,(Op.load 3 (Operand.tmp 44))⟩,[4],[],[]⟩,
          ⟨⟨some (43,false),some 46,(Op.binOp BinOp.lss 3 (Operand.tmp 45) (Operand.const (Value.int IntKind.i64 1)) 3)⟩,[],[],[]⟩,
          ⟨⟨none,some 47,(Op.pick (Operand.tmp 43) (Operand.const (Value.bool true)) (Operand.tmp 46))⟩,[],[],[]⟩,
          ⟨⟨none,some 48,(Op.move (Operand.tmp 47))⟩,[],[],[]⟩,
          ⟨⟨some (48,false),some 49,(Op.fieldAddr 64 (Operand.tmp 4) 1)⟩,[],[],[]⟩,
          ⟨⟨some (48,false),some 50,(Op.load 3 (Operand.tmp 49))⟩,[4],[],[]⟩,
          ⟨⟨some (48,false),some 51,(Op.binOp BinOp.gtr 3 (Operand.tmp 50) (Operand.const (Value.int IntKind.i64 2)) 3)⟩,[],[],[]⟩,
          ⟨⟨none,some 52,(Op.pick (Operand.tmp 48) (Operand.const (Value.bool true)) (Operand.tmp 51))⟩,[],[],[]⟩])
       (.cond (Operand.tmp 52) (.seq (.reg [⟨none,some 2,(Op.assign (Operand.const (Value.bool false)))⟩])
         (.ret)) (.skip)))
      (.seq (.reg [⟨none,some 5,(Op.assign (Operand.const (Value.int IntKind.i64 0)))⟩])
       (.block 2 (.loop ac15_l1))))))
   (.reg [⟨none,some 16,(Op.move (Operand.tmp 3))⟩,
      ⟨none,some 17,(Op.binOp BinOp.add 3 (Operand.tmp 16) (Operand.const (Value.int IntKind.i64 1)) 3)⟩,
      ⟨none,some 3,(Op.assign (Operand.tmp 17))⟩]))
def ac15_l2:ACode :=
  .seq (.seq (.reg [⟨none,some 63,(Op.move (Operand.tmp 6))⟩,
      ⟨none,some 64,(Op.fieldAddr 33 (Operand.tmp 1) 0)⟩,
      ⟨none,some 65,(Op.load 31 (Operand.tmp 64))⟩,
      ⟨none,some 66,(Op.call ⟨(Callee.builtin Builtin.len),#[(Operand.tmp 65)],#[31]⟩)⟩,
      ⟨none,some 67,(Op.binOp BinOp.lss 3 (Operand.tmp 63) (Operand.tmp 66) 3)⟩])
   (.cond (Operand.tmp 67) (.skip) (.exit 4)))
  (.seq (.block 5 (.seq (.draw [⟨⟨none,some 70,(Op.load 33 (Operand.tmp 1))⟩,[1],[],[]⟩,
        ⟨⟨none,some 71,(Op.fieldAddr 33 (Operand.tmp 1) 0)⟩,[],[1],[]⟩,
        ⟨⟨none,some 72,(Op.load 31 (Operand.tmp 71))⟩,[1],[1],[]⟩,
        ⟨⟨none,some 73,(Op.move (Operand.tmp 6))⟩,[],[1],[]⟩,
        ⟨⟨none,some 74,(Op.indexAddr 31 (Operand.tmp 72) (Operand.tmp 73))⟩,[],[1],[]⟩,
        ⟨⟨none,some 75,(Op.load 64 (Operand.tmp 74))⟩,[],[1],[]⟩,
        ⟨⟨none,some 76,(Op.call ⟨(Callee.value (Operand.func 32)),#[(Operand.tmp 70),(Operand.tmp 75)],#[33,64]⟩)⟩,[],[],[]⟩,
        ⟨⟨none,some 77,(Op.unOp UnOp.not 4 (Operand.tmp 76))⟩,[],[],[]⟩])
     (.cond (Operand.tmp 77) (.seq (.reg [⟨none,some 2,(Op.assign (Operand.const (Value.bool false)))⟩])
       (.ret)) (.skip))))
   (.reg [⟨none,some 68,(Op.move (Operand.tmp 6))⟩,
      ⟨none,some 69,(Op.binOp BinOp.add 3 (Operand.tmp 68) (Operand.const (Value.int IntKind.i64 1)) 3)⟩,
      ⟨none,some 6,(Op.assign (Operand.tmp 69))⟩]))
def ac15:ACode :=
  .seq (.reg [⟨none,some 1,(Op.box 33 (Operand.tmp 0))⟩,
     ⟨none,some 2,(Op.assign (Operand.const (Value.bool false)))⟩])
  (.seq (.seq (.reg [⟨none,some 7,(Op.fieldAddr 33 (Operand.tmp 1) 0)⟩,
       ⟨none,some 8,(Op.load 31 (Operand.tmp 7))⟩,
       ⟨none,some 9,(Op.call ⟨(Callee.builtin Builtin.len),#[(Operand.tmp 8)],#[31]⟩)⟩,
       ⟨none,some 10,(Op.binOp BinOp.gtr 3 (Operand.tmp 9) (Operand.const (Value.int IntKind.i64 6)) 3)⟩])
    (.cond (Operand.tmp 10) (.seq (.reg [⟨none,some 2,(Op.assign (Operand.const (Value.bool false)))⟩])
      (.ret)) (.skip)))
   (.seq (.seq (.reg [⟨none,some 3,(Op.assign (Operand.const (Value.int IntKind.i64 0)))⟩])
     (.block 0 (.loop ac15_l0)))
    (.seq (.seq (.reg [⟨none,some 6,(Op.assign (Operand.const (Value.int IntKind.i64 0)))⟩])
      (.block 4 (.loop ac15_l2)))
     (.seq (.reg [⟨none,some 2,(Op.assign (Operand.const (Value.bool true)))⟩])
      (.ret)))))
theorem vc15 {args:List AV} {L:List (Nat×Ob)} {R:AV→List (Nat×Ob)→Prop} (ha:args.length≤78) (hL:(L.map (·.1)).Nodup)
  (h:ev Go.Proofs.Tryd.prog ⟨78,L.map (·.1)⟩ ac15 (retQ Go.Proofs.Tryd.prog [(ResultVar.tmp 2)] R) ⟨argT args,hpOf L,Us.of (L.map (·.1))⟩):ACall Go.Proofs.Tryd.prog 15 args L R :=
 acallA (by kernel_rfl) 78 [(7,[⟨0,[],[],[],[1,2,3,4,5,6,7,8,9,10,11,12,13,14,15,16,17,18,19,20,21,22,23,24,25,26,27,28,29]⟩,⟨1,[4],[],[],[2,3,4,5,6,7,8,9,10,11,12,13,14,15,16,17,18,19,20,21,22,23,24,25,26,27,28,29]⟩,⟨2,[],[],[],[3,4,5,6,7,8,9,10,11,12,13,14,15,16,17,18,19,20,21,22,23,24,25,26,27,28,29]⟩,⟨3,[],[],[],[4,5,6,7,8,9,10,11,12,13,14,15,16,17,18,19,20,21,22,23,24,25,26,27,28,29]⟩,⟨4,[],[],[],[5,6,7,8,9,10,11,12,13,14,15,16,17,18,19,20,21,22,23,24,25,26,27,28,29]⟩,⟨5,[],[],[],[6,7,8,9,10,11,12,13,14,15,16,17,18,19,20,21,22,23,24,25,26,27,28,29]⟩,⟨6,[],[],[],[7,8,9,10,11,12,13,14,15,16,17,18,19,20,21,22,23,24,25,26,27,28,29]⟩,⟨7,[],[],[],[8,9,10,11,12,13,14,15,16,17,18,19,20,21,22,23,24,25,26,27,28,29]⟩,⟨8,[],[],[],[9,17,18,19,20,21,22,23,24,25,26,27,28,29]⟩,⟨9,[4],[],[],[17,18,19,20,21,22,23,24,25,26,27,28,29]⟩,⟨10,[],[4],[],[11,14,15,16,17,18,19,20,21,22,23,24,25,26,27,28,29]⟩,⟨11,[1],[4],[],[14,15,16,17,18,19,20,21,22,23,24,25,26,27,28,29]⟩,⟨12,[],[4,1],[],[13,14,15,16,17,18,19,20,21,22,23,24,25,26,27,28,29]⟩,⟨13,[],[4,1],[],[14,15,16,17,18,19,20,21,22,23,24,25,26,27,28,29]⟩,⟨14,[],[4],[],[15,16,17,18,19,20,21,22,23,24,25,26,27,28,29]⟩,⟨15,[],[4],[],[16,17,18,19,20,21,22,23,24,25,26,27,28,29]⟩,⟨16,[],[4],[],[17,18,19,20,21,22,23,24,25,26,27,28,29]⟩,⟨17,[],[],[],[18,19,20,21,22,23,24,25,26,27,28,29]⟩,⟨18,[],[],[],[19,20,21,22,23,24,25,26,27,28,29]⟩,⟨19,[],[],[],[20,21,22,23,24,25,26,27,28,29]⟩,⟨20,[],[],[],[21,22,23,24,25,26,27,28,29]⟩,⟨21,[],[],[],[22,23,24,25,26,27,28,29]⟩,⟨22,[4],[],[],[23,24,25,26,27,28,29]⟩,⟨23,[],[],[],[24,25,26,27,28,29]⟩,⟨24,[],[],[],[25,26,27,28,29]⟩,⟨25,[],[],[],[26,27,28,29]⟩,⟨26,[],[],[],[27,28,29]⟩,⟨27,[4],[],[],[28,29]⟩,⟨28,[],[],[],[29]⟩,zI 29]),(17,[⟨0,[1],[],[],[6,7]⟩,⟨1,[],[1],[],[2,4,5,6,7]⟩,⟨2,[1],[1],[],[4,5,6,7]⟩,⟨3,[],[1],[],[4,5,6,7]⟩,⟨4,[],[1],[],[5,6,7]⟩,⟨5,[],[1],[],[6,7]⟩,⟨6,[],[],[],[7]⟩,zI 7])] [(ResultVar.tmp 2)] Go.Proofs.Tryd.func15 (by kernel_rfl) Go.Proofs.Tryd.ntmps15 (by kernel_rfl) ha hL (qbs _ h)
end Go.Av.F
end
section
namespace Go.Av.F
open Go Go.Av
open Go.Proofs Go.Proofs.Tryd
attribute [-simp] getU hdS canon qae i64w
attribute [local simp] tt3 tt4 tt9 tt5 tt94
def lowB (c:UInt8):Bool:=!(decide (c<97) || decide (97+25<c))
def nameB (s:List UInt8):Bool:=s.all lowB && decide (0<s.length) && decide (s.length≤6)
theorem all_take_succ {α:Type} (p:α→Bool) (l:List α) (i:Nat) (x:α) (h:l[i]?=some x):(l.take (i+1)).all p=((l.take i).all p && p x):=by
 rw[List.take_add_one,h];simp
theorem bookName (s:List UInt8) (hs:s.length<4611686018427387904):ACall Go.Proofs.Tryd.prog 31 [.str s] [] (fun r L'=>r=.bool (nameB s)∧L'=[]):=by
 refine acx func31 [] ntmps31 rfl rfl rfl ?_
 simp
 refine qba (X:=Nat) [0,2,3] (fun i=>⟨mkT [(0,.str s),(2,.bool false),(3,.int .i64 i)],hpOf [],Us.of []⟩) (fun i=>s.length-i) (fun i=>i≤s.length∧(s.take i).all lowB=true) 0 ⟨by simp,[],by simp[qae],by simp[canon]⟩ ?_
 rintro i ⟨hi,ha⟩
 skip
 by_cases h1:i<s.length
 ·obtain⟨x,e0⟩:∃ x,s[i]=x:=⟨_,rfl⟩
  have e1:s[i]?=some x:=by rw[← e0];exact List.getElem?_eq_getElem h1
  have e2:IntKind.i64.wrap ((i:Int)+1)=((i+1:Nat):Int):=by rw[qao _ (by omega)];omega
  have hbad:lowB x=false→nameB s=false:=fun hx=>by
   have hm:x∈s:=List.mem_of_getElem? e1
   have:s.all lowB=false:=by rw[List.all_eq_false];exact⟨x,hm,by simp[hx]⟩
   simp[nameB,this]
  simp[h1,e0,e1,e2]
  refine⟨fun h2=>⟨fun h3=>hbad ?_,fun h3=>qax (i+1) (by omega) ⟨by omega,?_⟩ [] (by simp[qae]) (by simp[canon])⟩,fun h2=>hbad ?_⟩
  ·simp[lowB,UInt8.lt_iff_toNat_lt];omega
  ·have:=all_take_succ lowB s i x e1
   rw[ha]at this
   have hx:lowB x=true:=by simp[lowB,UInt8.lt_iff_toNat_lt];omega
   rw[hx]at this
   simpa using this
  ·simp[lowB,UInt8.lt_iff_toNat_lt];omega
 ·have hi':i=s.length:=by omega
  subst hi'
  rw[List.take_length]at ha
  simp[h1]
  refine⟨fun h=>?_,fun h=>?_⟩
  ·simp[nameB,ha,h];omega
  ·subst h;simp[nameB]
end Go.Av.F
end
section
namespace Go.Av.F
open Go Go.Av
open Go.Proofs Go.Proofs.Tryd
attribute [-simp] getU hdS canon qae i64w
attribute [local simp] tt3 tt4 tt9 tt5 tt94
theorem fol:Go.Proofs.Tryd.prog.follows .mixedOrders=true:=by kernel_rfl
attribute [simp] fol
def u8row (c:UInt8):List AV:=[.int .u8 c.toNat]
def rdOb (bs:List UInt8) (p:Int):Ob:=⟨2,[[.lst 1 (bs.map u8row),.int .i64 p]]⟩
attribute [local simp] rdOb
end Go.Av.F
end
section
namespace Go.Av
open Go.RowKit
def Old (w:World) (p:Addr):Prop:=p.block<w.heap.size
theorem old_cell {w:World} {p:Addr} {v:Value} (h:w.cell? p=some v):Old w p:=World.block_lt_of_cell? w _ h
theorem fr_below {F:Addr→Prop} {w w':World} (h:Fr F w w') (hF:∀ p,¬ F p):Below w.heap.size w w':=by
 refine⟨h.os,h.tape,h.output,h.size,fun k hk=>?_⟩
 rcases h.blk k hk with e | ⟨c,c',ty,fz,h1,h2,h3,h4⟩
 ·exact e
 ·have:c'=c:=Array.ext_getElem? fun i=>h4 i (hF _)
  rw[h1,h2,this]
theorem calls_below {P:Program} {f:Nat} {args:List AV} {v:AV} {u:Value} (hb:hasBody P f=true) {W:World} {vs:Array Value} (hv:CRel W (Old W) noG args vs)
  (hu:∀ (w:World) (Z:Addr→Prop) (γ:Gm) (x:Value),AVRel w Z γ v x→x=u) (hC:ACall P f args [] (fun r L'=>r=v∧L'=[]))
  (hgl:GlR W (Old W):=by intro g cs h;unfold gtab at h;cases h) :
  Calls P f vs W fun e w'=>e=.returned u∧Below W.heap.size W w':=by
 have hno:∀ p,¬ Foot noG (hpOf []) p:=fun p hp=>by
  obtain⟨id,o,r,h,_⟩:=hp
  simp at h
 have h:=hC W (Old W) noG vs hv ⟨fun i x hx=>by simp at hx,fun i j o1 o2 r1 r2 hne g1=>by simp at g1,fun i x rg hx=>by simp at hx,fun p hp=>hp,hgl⟩ (fun id r hr=>by simp[noG]at hr)
 refine(h.calls hb).mono ?_
 rintro e w' ⟨x,r,L',Z',γ',rfl,⟨rfl,rfl⟩,hx,_,hfr,_⟩
 exact⟨by rw[hu _ _ _ _ hx],fr_below hfr hno⟩
theorem bool_only (b:Bool):∀ (w:World) (Z:Addr→Prop) (γ:Gm) (x:Value),AVRel w Z γ (.bool b) x→x=.bool b:=fun w Z γ x h=>by cases h;rfl
end Go.Av
end
