/- Lemmas for the proof, no statement of the seat; no conditions. -/
import Derived.Test.YthgigdhkcffloaaGreatDoorLayAI
import Derived.Test.YthgigdhkcffloaaGreatDoorProg
import Derived.Below
import Derived.WalkKit
set_option linter.unusedSimpArgs false
set_option linter.unusedVariables false
set_option linter.unnecessarySimpa false
set_option maxRecDepth 100000
section
namespace Go.Av.F
open Go.Av
theorem tt3:ttOf Go.Proofs.Tryz.prog 3=some ⟨(.int .i64),1,8,[.int .i64 (0)]⟩:=by kernel_rfl
theorem tt4:ttOf Go.Proofs.Tryz.prog 4=some ⟨.bool,1,1,[.bool false]⟩:=by kernel_rfl
theorem tt5:ttOf Go.Proofs.Tryz.prog 5=some ⟨(.int .u8),1,1,[.int .u8 (0)]⟩:=by kernel_rfl
theorem tt9:ttOf Go.Proofs.Tryz.prog 9=some ⟨.str,1,16,[.str []]⟩:=by kernel_rfl
theorem tt22:ttOf Go.Proofs.Tryz.prog 22=some ⟨(.slc 5),1,24,[.nils]⟩:=by kernel_rfl
theorem tt23:ttOf Go.Proofs.Tryz.prog 23=some ⟨(.slc 43),1,24,[.nils]⟩:=by kernel_rfl
theorem tt24:ttOf Go.Proofs.Tryz.prog 24=some ⟨(.slc 48),1,24,[.nils]⟩:=by kernel_rfl
theorem tt25:ttOf Go.Proofs.Tryz.prog 25=some ⟨(.slc 40),1,24,[.nils]⟩:=by kernel_rfl
theorem tt26:ttOf Go.Proofs.Tryz.prog 26=some ⟨(.slc 3),1,24,[.nils]⟩:=by kernel_rfl
theorem tt28:ttOf Go.Proofs.Tryz.prog 28=some ⟨(.srt [(0,3),(1,23),(2,24),(3,25),(4,4),(5,26),(6,3)]),7,120,[.int .i64 (0),.nils,.nils,.nils,.bool false,.nils,.int .i64 (0)]⟩:=by kernel_rfl
theorem tt40:ttOf Go.Proofs.Tryz.prog 40=some ⟨(.srt [(0,3),(1,3),(2,3)]),3,24,[.int .i64 (0),.int .i64 (0),.int .i64 (0)]⟩:=by kernel_rfl
theorem tt41:ttOf Go.Proofs.Tryz.prog 41=some ⟨(.arr 8 40),24,192,[.int .i64 (0),.int .i64 (0),.int .i64 (0),.int .i64 (0),.int .i64 (0),.int .i64 (0),.int .i64 (0),.int .i64 (0),.int .i64 (0),.int .i64 (0),.int .i64 (0),.int .i64 (0),.int .i64 (0),.int .i64 (0),.int .i64 (0),.int .i64 (0),.int .i64 (0),.int .i64 (0),.int .i64 (0),.int .i64 (0),.int .i64 (0),.int .i64 (0),.int .i64 (0),.int .i64 (0)]⟩:=by kernel_rfl
theorem tt43:ttOf Go.Proofs.Tryz.prog 43=some ⟨(.srt [(0,9),(1,3),(2,9),(3,41),(27,40),(30,4)]),31,264,[.str [],.int .i64 (0),.str [],.int .i64 (0),.int .i64 (0),.int .i64 (0),.int .i64 (0),.int .i64 (0),.int .i64 (0),.int .i64 (0),.int .i64 (0),.int .i64 (0),.int .i64 (0),.int .i64 (0),.int .i64 (0),.int .i64 (0),.int .i64 (0),.int .i64 (0),.int .i64 (0),.int .i64 (0),.int .i64 (0),.int .i64 (0),.int .i64 (0),.int .i64 (0),.int .i64 (0),.int .i64 (0),.int .i64 (0),.int .i64 (0),.int .i64 (0),.int .i64 (0),.bool false]⟩:=by kernel_rfl
theorem tt48:ttOf Go.Proofs.Tryz.prog 48=some ⟨(.srt [(0,3),(1,3),(2,3)]),3,24,[.int .i64 (0),.int .i64 (0),.int .i64 (0)]⟩:=by kernel_rfl
theorem tt51:ttOf Go.Proofs.Tryz.prog 51=some ⟨(.srt [(0,22),(1,3)]),2,32,[.nils,.int .i64 (0)]⟩:=by kernel_rfl
theorem tt52:ttOf Go.Proofs.Tryz.prog 52=some ⟨(.slc 9),1,24,[.nils]⟩:=by kernel_rfl
theorem tt53:ttOf Go.Proofs.Tryz.prog 53=some ⟨(.arr 2 52),2,48,[.nils,.nils]⟩:=by kernel_rfl
theorem tt54:ttOf Go.Proofs.Tryz.prog 54=some ⟨(.slc 115),1,24,[.nils]⟩:=by kernel_rfl
theorem tt56:ttOf Go.Proofs.Tryz.prog 56=some ⟨(.srt [(0,53),(2,54)]),3,72,[.nils,.nils,.nils]⟩:=by kernel_rfl
theorem tt65:ttOf Go.Proofs.Tryz.prog 65=some ⟨(.slc 90),1,24,[.nils]⟩:=by kernel_rfl
theorem tt67:ttOf Go.Proofs.Tryz.prog 67=some ⟨(.srt [(0,65)]),1,24,[.nils]⟩:=by kernel_rfl
theorem tt75:ttOf Go.Proofs.Tryz.prog 75=some ⟨(.srt [(0,3),(1,9),(2,9),(3,3),(4,9)]),5,64,[.int .i64 (0),.str [],.str [],.int .i64 (0),.str []]⟩:=by kernel_rfl
theorem tt88:ttOf Go.Proofs.Tryz.prog 88=some ⟨(.arr 8 9),8,128,[.str [],.str [],.str [],.str [],.str [],.str [],.str [],.str []]⟩:=by kernel_rfl
theorem tt90:ttOf Go.Proofs.Tryz.prog 90=some ⟨(.srt [(0,9),(1,3),(2,9),(3,88)]),11,168,[.str [],.int .i64 (0),.str [],.str [],.str [],.str [],.str [],.str [],.str [],.str [],.str []]⟩:=by kernel_rfl
theorem tt115:ttOf Go.Proofs.Tryz.prog 115=some ⟨(.srt [(0,3),(1,3),(2,9)]),3,32,[.int .i64 (0),.int .i64 (0),.str []]⟩:=by kernel_rfl
theorem tt123:ttOf Go.Proofs.Tryz.prog 123=some ⟨(.srt [(0,56),(3,26),(4,3),(5,4)]),6,112,[.nils,.nils,.nils,.nils,.int .i64 (0),.bool false]⟩:=by kernel_rfl
theorem tt137:ttOf Go.Proofs.Tryz.prog 137=some ⟨(.srt [(0,3),(1,3),(2,75)]),7,80,[.int .i64 (0),.int .i64 (0),.int .i64 (0),.str [],.str [],.int .i64 (0),.str []]⟩:=by kernel_rfl
theorem tt162:ttOf Go.Proofs.Tryz.prog 162=some ⟨(.arr 256 4),256,256,List.replicate 256 (.bool false)⟩:=by kernel_rfl
theorem tt167:ttOf Go.Proofs.Tryz.prog 167=some ⟨(.int .u64),1,8,[.int .u64 (0)]⟩:=by kernel_rfl
end Go.Av.F

end
section
namespace Go.Av.F
open Go Go.Av
set_option linter.constructorNameAsVariable false
def ac43_l1:ACode :=
  .seq (.seq (.reg [⟨none,some 53,(Op.move (Operand.tmp 5))⟩,
      ⟨none,some 54,(Op.binOp BinOp.lss 3 (Operand.tmp 53) (Operand.const (Value.int IntKind.i64 8)) 3)⟩])
   (.cond (Operand.tmp 54) (.skip) (.exit 2)))
  (.seq (.block 3 (.seq (.reg [⟨none,some 57,(Op.move (Operand.tmp 5))⟩,
        ⟨none,some 58,(Op.fieldAddr 90 (Operand.tmp 4) 3)⟩,
        ⟨none,some 59,(Op.indexAddr 88 (Operand.tmp 58) (Operand.tmp 57))⟩,
        ⟨none,some 60,(Op.load 9 (Operand.tmp 59))⟩,
        ⟨none,some 61,(Op.call ⟨(Callee.builtin Builtin.len),#[(Operand.tmp 60)],#[9]⟩)⟩,
        ⟨none,some 62,(Op.binOp BinOp.gtr 3 (Operand.tmp 61) (Operand.const (Value.int IntKind.i64 24)) 3)⟩])
     (.cond (Operand.tmp 62) (.seq (.reg [⟨none,some 2,(Op.assign (Operand.const (Value.bool false)))⟩])
       (.ret)) (.skip))))
   (.reg [⟨none,some 55,(Op.move (Operand.tmp 5))⟩,
      ⟨none,some 56,(Op.binOp BinOp.add 3 (Operand.tmp 55) (Operand.const (Value.int IntKind.i64 1)) 3)⟩,
      ⟨none,some 5,(Op.assign (Operand.tmp 56))⟩]))
def ac43_l0:ACode :=
  .seq (.seq (.reg [⟨none,some 11,(Op.move (Operand.tmp 3))⟩,
      ⟨none,some 12,(Op.fieldAddr 67 (Operand.tmp 1) 0)⟩,
      ⟨none,some 13,(Op.load 65 (Operand.tmp 12))⟩,
      ⟨none,some 14,(Op.call ⟨(Callee.builtin Builtin.len),#[(Operand.tmp 13)],#[65]⟩)⟩,
      ⟨none,some 15,(Op.binOp BinOp.lss 3 (Operand.tmp 11) (Operand.tmp 14) 3)⟩])
   (.cond (Operand.tmp 15) (.skip) (.exit 0)))
  (.seq (.block 1 (.seq (.reg [⟨none,some 18,(Op.fieldAddr 67 (Operand.tmp 1) 0)⟩,
        ⟨none,some 19,(Op.load 65 (Operand.tmp 18))⟩,
        ⟨none,some 20,(Op.move (Operand.tmp 3))⟩,
        ⟨none,some 21,(Op.indexAddr 65 (Operand.tmp 19) (Operand.tmp 20))⟩,
        ⟨none,some 22,(Op.load 90 (Operand.tmp 21))⟩,
        ⟨none,some 4,(Op.alloc 90)⟩,
        ⟨none,none,(Op.store 90 (Operand.tmp 4) (Operand.tmp 22))⟩])
     (.seq (.seq (.draw [⟨⟨none,some 23,(Op.fieldAddr 90 (Operand.tmp 4) 0)⟩,[],[],[]⟩,
          ⟨⟨none,some 24,(Op.load 9 (Operand.tmp 23))⟩,[4],[],[]⟩,
          ⟨⟨none,some 25,(Op.call ⟨(Callee.value (Operand.func 71)),#[(Operand.tmp 24)],#[9]⟩)⟩,[],[],[]⟩,
          ⟨⟨none,some 26,(Op.unOp UnOp.not 4 (Operand.tmp 25))⟩,[],[],[]⟩,
          ⟨⟨none,some 27,(Op.move (Operand.tmp 26))⟩,[],[],[]⟩,
          ⟨⟨some (27,false),some 28,(Op.move (Operand.tmp 3))⟩,[],[],[]⟩,
          ⟨⟨some (27,false),some 29,(Op.binOp BinOp.gtr 3 (Operand.tmp 28) (Operand.const (Value.int IntKind.i64 0)) 3)⟩,[],[],[]⟩,
          ⟨⟨some (27,false),some 30,(Op.move (Operand.tmp 29))⟩,[],[],[]⟩,
          ⟨⟨some (30,true),some 31,(Op.fieldAddr 90 (Operand.tmp 4) 0)⟩,[],[],[]⟩,
          ⟨⟨some (30,true),some 32,(Op.load 9 (Operand.tmp 31))⟩,[4],[],[]⟩,
          ⟨⟨some (30,true),some 33,(Op.fieldAddr 67 (Operand.tmp 1) 0)⟩,[],[4],[]⟩,
          ⟨⟨some (30,true),some 34,(Op.load 65 (Operand.tmp 33))⟩,[1],[4],[]⟩,
          ⟨⟨some (30,true),some 35,(Op.move (Operand.tmp 3))⟩,[],[4,1],[]⟩,
          ⟨⟨some (30,true),some 36,(Op.binOp BinOp.sub 3 (Operand.tmp 35) (Operand.const (Value.int IntKind.i64 1)) 3)⟩,[],[4,1],[]⟩,
          ⟨⟨some (30,true),some 37,(Op.indexAddr 65 (Operand.tmp 34) (Operand.tmp 36))⟩,[],[4],[]⟩,
          ⟨⟨some (30,true),some 38,(Op.fieldAddr 90 (Operand.tmp 37) 0)⟩,[],[4],[]⟩,
          ⟨⟨some (30,true),some 39,(Op.load 9 (Operand.tmp 38))⟩,[],[4],[]⟩,
          ⟨⟨some (30,true),some 40,(Op.binOp BinOp.leq 9 (Operand.tmp 32) (Operand.tmp 39) 9)⟩,[],[],[]⟩,
          ⟨⟨some (27,false),some 41,(Op.pick (Operand.tmp 30) (Operand.tmp 40) (Operand.const (Value.bool false)))⟩,[],[],[]⟩,
          ⟨⟨none,some 42,(Op.pick (Operand.tmp 27) (Operand.const (Value.bool true)) (Operand.tmp 41))⟩,[],[],[]⟩,
          ⟨⟨none,some 43,(Op.move (Operand.tmp 42))⟩,[],[],[]⟩,
          ⟨⟨some (43,false),some 44,(Op.fieldAddr 90 (Operand.tmp 4) 1)⟩,[],[],[]⟩,
          ⟨⟨some (43,false),some 45,(Op.load 3 (Operand.tmp 44))⟩,[4],[],[]⟩,
          ⟨⟨some (43,false),some 46,(Op.binOp BinOp.lss 3 (Operand.tmp 45) (Operand.const (Value.int IntKind.i64 1)) 3)⟩,[],[],[]⟩,
          ⟨⟨none,some 47,(Op.pick (Operand.tmp 43) (Operand.const (Value.bool true)) (Operand.tmp 46))⟩,[],[],[]⟩,
          ⟨⟨none,some 48,(Op.move (Operand.tmp 47))⟩,[],[],[]⟩,
          ⟨⟨some (48,false),some 49,(Op.fieldAddr 90 (Operand.tmp 4) 1)⟩,[],[],[]⟩,
          ⟨⟨some (48,false),some 50,(Op.load 3 (Operand.tmp 49))⟩,[4],[],[]⟩,
          ⟨⟨some (48,false),some 51,(Op.binOp BinOp.gtr 3 (Operand.tmp 50) (Operand.const (Value.int IntKind.i64 2)) 3)⟩,[],[],[]⟩,
          ⟨⟨none,some 52,(Op.pick (Operand.tmp 48) (Operand.const (Value.bool true)) (Operand.tmp 51))⟩,[],[],[]⟩])
       (.cond (Operand.tmp 52) (.seq (.reg [⟨none,some 2,(Op.assign (Operand.const (Value.bool false)))⟩])
         (.ret)) (.skip)))
      (.seq (.reg [⟨none,some 5,(Op.assign (Operand.const (Value.int IntKind.i64 0)))⟩])
       (.block 2 (.loop ac43_l1))))))
   (.reg [⟨none,some 16,(Op.move (Operand.tmp 3))⟩,
      ⟨none,some 17,(Op.binOp BinOp.add 3 (Operand.tmp 16) (Operand.const (Value.int IntKind.i64 1)) 3)⟩,
      ⟨none,some 3,(Op.assign (Operand.tmp 17))⟩]))
def ac43_l2:ACode :=
  .seq (.seq (.reg [⟨none,some 63,(Op.move (Operand.tmp 6))⟩,
      ⟨none,some 64,(Op.fieldAddr 67 (Operand.tmp 1) 0)⟩,
      ⟨none,some 65,(Op.load 65 (Operand.tmp 64))⟩,
      ⟨none,some 66,(Op.call ⟨(Callee.builtin Builtin.len),#[(Operand.tmp 65)],#[65]⟩)⟩,
      ⟨none,some 67,(Op.binOp BinOp.lss 3 (Operand.tmp 63) (Operand.tmp 66) 3)⟩])
   (.cond (Operand.tmp 67) (.skip) (.exit 4)))
  (.seq (.block 5 (.seq (.draw [⟨⟨none,some 70,(Op.load 67 (Operand.tmp 1))⟩,[1],[],[]⟩,
        ⟨⟨none,some 71,(Op.fieldAddr 67 (Operand.tmp 1) 0)⟩,[],[1],[]⟩,
        ⟨⟨none,some 72,(Op.load 65 (Operand.tmp 71))⟩,[1],[1],[]⟩,
        ⟨⟨none,some 73,(Op.move (Operand.tmp 6))⟩,[],[1],[]⟩,
        ⟨⟨none,some 74,(Op.indexAddr 65 (Operand.tmp 72) (Operand.tmp 73))⟩,[],[1],[]⟩,
        ⟨⟨none,some 75,(Op.load 90 (Operand.tmp 74))⟩,[],[1],[]⟩,
        ⟨⟨none,some 76,(Op.call ⟨(Callee.value (Operand.func 72)),#[(Operand.tmp 70),(Operand.tmp 75)],#[67,90]⟩)⟩,[],[],[]⟩,
        ⟨⟨none,some 77,(Op.unOp UnOp.not 4 (Operand.tmp 76))⟩,[],[],[]⟩])
     (.cond (Operand.tmp 77) (.seq (.reg [⟨none,some 2,(Op.assign (Operand.const (Value.bool false)))⟩])
       (.ret)) (.skip))))
   (.reg [⟨none,some 68,(Op.move (Operand.tmp 6))⟩,
      ⟨none,some 69,(Op.binOp BinOp.add 3 (Operand.tmp 68) (Operand.const (Value.int IntKind.i64 1)) 3)⟩,
      ⟨none,some 6,(Op.assign (Operand.tmp 69))⟩]))
def ac43:ACode :=
  .seq (.reg [⟨none,some 1,(Op.box 67 (Operand.tmp 0))⟩,
     ⟨none,some 2,(Op.assign (Operand.const (Value.bool false)))⟩])
  (.seq (.seq (.reg [⟨none,some 7,(Op.fieldAddr 67 (Operand.tmp 1) 0)⟩,
       ⟨none,some 8,(Op.load 65 (Operand.tmp 7))⟩,
       ⟨none,some 9,(Op.call ⟨(Callee.builtin Builtin.len),#[(Operand.tmp 8)],#[65]⟩)⟩,
       ⟨none,some 10,(Op.binOp BinOp.gtr 3 (Operand.tmp 9) (Operand.const (Value.int IntKind.i64 6)) 3)⟩])
    (.cond (Operand.tmp 10) (.seq (.reg [⟨none,some 2,(Op.assign (Operand.const (Value.bool false)))⟩])
      (.ret)) (.skip)))
   (.seq (.seq (.reg [⟨none,some 3,(Op.assign (Operand.const (Value.int IntKind.i64 0)))⟩])
     (.block 0 (.loop ac43_l0)))
    (.seq (.seq (.reg [⟨none,some 6,(Op.assign (Operand.const (Value.int IntKind.i64 0)))⟩])
      (.block 4 (.loop ac43_l2)))
     (.seq (.reg [⟨none,some 2,(Op.assign (Operand.const (Value.bool true)))⟩])
      (.ret)))))
theorem vc43 {args:List AV} {L:List (Nat×Ob)} {R:AV→List (Nat×Ob)→Prop} (ha:args.length≤78) (hL:(L.map (·.1)).Nodup)
  (h:ev Go.Proofs.Tryz.prog ⟨78,L.map (·.1)⟩ ac43 (retQ Go.Proofs.Tryz.prog [(ResultVar.tmp 2)] R) ⟨argT args,hpOf L,Us.of (L.map (·.1))⟩):ACall Go.Proofs.Tryz.prog 43 args L R :=
 acallA (by kernel_rfl) 78 [(7,[⟨0,[],[],[],[1,2,3,4,5,6,7,8,9,10,11,12,13,14,15,16,17,18,19,20,21,22,23,24,25,26,27,28,29]⟩,⟨1,[4],[],[],[2,3,4,5,6,7,8,9,10,11,12,13,14,15,16,17,18,19,20,21,22,23,24,25,26,27,28,29]⟩,⟨2,[],[],[],[3,4,5,6,7,8,9,10,11,12,13,14,15,16,17,18,19,20,21,22,23,24,25,26,27,28,29]⟩,⟨3,[],[],[],[4,5,6,7,8,9,10,11,12,13,14,15,16,17,18,19,20,21,22,23,24,25,26,27,28,29]⟩,⟨4,[],[],[],[5,6,7,8,9,10,11,12,13,14,15,16,17,18,19,20,21,22,23,24,25,26,27,28,29]⟩,⟨5,[],[],[],[6,7,8,9,10,11,12,13,14,15,16,17,18,19,20,21,22,23,24,25,26,27,28,29]⟩,⟨6,[],[],[],[7,8,9,10,11,12,13,14,15,16,17,18,19,20,21,22,23,24,25,26,27,28,29]⟩,⟨7,[],[],[],[8,9,10,11,12,13,14,15,16,17,18,19,20,21,22,23,24,25,26,27,28,29]⟩,⟨8,[],[],[],[9,17,18,19,20,21,22,23,24,25,26,27,28,29]⟩,⟨9,[4],[],[],[17,18,19,20,21,22,23,24,25,26,27,28,29]⟩,⟨10,[],[4],[],[11,14,15,16,17,18,19,20,21,22,23,24,25,26,27,28,29]⟩,⟨11,[1],[4],[],[14,15,16,17,18,19,20,21,22,23,24,25,26,27,28,29]⟩,⟨12,[],[4,1],[],[13,14,15,16,17,18,19,20,21,22,23,24,25,26,27,28,29]⟩,⟨13,[],[4,1],[],[14,15,16,17,18,19,20,21,22,23,24,25,26,27,28,29]⟩,⟨14,[],[4],[],[15,16,17,18,19,20,21,22,23,24,25,26,27,28,29]⟩,⟨15,[],[4],[],[16,17,18,19,20,21,22,23,24,25,26,27,28,29]⟩,⟨16,[],[4],[],[17,18,19,20,21,22,23,24,25,26,27,28,29]⟩,⟨17,[],[],[],[18,19,20,21,22,23,24,25,26,27,28,29]⟩,⟨18,[],[],[],[19,20,21,22,23,24,25,26,27,28,29]⟩,⟨19,[],[],[],[20,21,22,23,24,25,26,27,28,29]⟩,⟨20,[],[],[],[21,22,23,24,25,26,27,28,29]⟩,⟨21,[],[],[],[22,23,24,25,26,27,28,29]⟩,⟨22,[4],[],[],[23,24,25,26,27,28,29]⟩,⟨23,[],[],[],[24,25,26,27,28,29]⟩,⟨24,[],[],[],[25,26,27,28,29]⟩,⟨25,[],[],[],[26,27,28,29]⟩,⟨26,[],[],[],[27,28,29]⟩,⟨27,[4],[],[],[28,29]⟩,⟨28,[],[],[],[29]⟩,zI 29]),(17,[⟨0,[1],[],[],[6,7]⟩,⟨1,[],[1],[],[2,4,5,6,7]⟩,⟨2,[1],[1],[],[4,5,6,7]⟩,⟨3,[],[1],[],[4,5,6,7]⟩,⟨4,[],[1],[],[5,6,7]⟩,⟨5,[],[1],[],[6,7]⟩,⟨6,[],[],[],[7]⟩,zI 7])] [(ResultVar.tmp 2)] Go.Proofs.Tryz.func43 (by kernel_rfl) Go.Proofs.Tryz.ntmps43 (by kernel_rfl) ha hL (qal _ h)
end Go.Av.F

end
section
namespace Go.Av.F
open Go Go.Av
open Go.Proofs Go.Proofs.Tryz
attribute [-simp] getU hdS canon qab i64w
attribute [local simp] tt3 tt4 tt9 tt5 tt22
def lowB (c:UInt8):Bool:=!(decide (c<97) || decide (97+25<c))
def nameB (s:List UInt8):Bool:=s.all lowB && decide (0<s.length) && decide (s.length≤6)
theorem all_take_succ {α:Type} (p:α→Bool) (l:List α) (i:Nat) (x:α) (h:l[i]?=some x):(l.take (i+1)).all p=((l.take i).all p && p x):=by
 rw[List.take_add_one,h];simp
theorem bookName (s:List UInt8) (hs:s.length<4611686018427387904):ACall Go.Proofs.Tryz.prog 71 [.str s] [] (fun r L'=>r=.bool (nameB s)∧L'=[]):=by
 refine acx func71 [] ntmps71 rfl rfl rfl ?_
 simp
 refine qbu (X:=Nat) [0,2,3] (fun i=>⟨mkT [(0,.str s),(2,.bool false),(3,.int .i64 i)],hpOf [],Us.of []⟩) (fun i=>s.length-i) (fun i=>i≤s.length∧(s.take i).all lowB=true) 0 ⟨by simp,[],by simp[qab],by simp[canon]⟩ ?_
 rintro i ⟨hi,ha⟩
 skip
 by_cases h1:i<s.length
 ·obtain⟨x,e0⟩:∃ x,s[i]=x:=⟨_,rfl⟩
  have e1:s[i]?=some x:=by rw[← e0];exact List.getElem?_eq_getElem h1
  have e2:IntKind.i64.wrap ((i:Int)+1)=((i+1:Nat):Int):=by rw[qao _ (by omega)];omega
  have hbad:lowB x=false→nameB s=false:=fun hx=>by
   have hm:x∈s:=List.mem_of_getElem? e1
   have:s.all lowB=false:=by rw[List.all_eq_false];exact⟨x,hm,by simp[hx]⟩
   simp[nameB,this]
  simp[h1,e0,e1,e2]
  refine⟨fun h2=>⟨fun h3=>hbad ?_,fun h3=>qbs (i+1) (by omega) ⟨by omega,?_⟩ [] (by simp[qab]) (by simp[canon])⟩,fun h2=>hbad ?_⟩
  ·simp[lowB,UInt8.lt_iff_toNat_lt];omega
  ·have:=all_take_succ lowB s i x e1
   rw[ha]at this
   have hx:lowB x=true:=by simp[lowB,UInt8.lt_iff_toNat_lt];omega
   rw[hx]at this
   simpa using this
  ·simp[lowB,UInt8.lt_iff_toNat_lt];omega
 ·have hi':i=s.length:=by omega
  subst hi'
  rw[List.take_length]at ha
  simp[h1]
  refine⟨fun h=>?_,fun h=>?_⟩
  ·simp[nameB,ha,h];omega
  ·subst h;simp[nameB]
end Go.Av.F

end
section
namespace Go.Av.F
open Go Go.Av
open Go.Proofs Go.Proofs.Tryz
attribute [-simp] getU hdS canon qab i64w
noncomputable abbrev PP:=Go.Proofs.Tryz.prog
attribute [local simp] tt3 tt4 tt9 tt5 tt22 tt51
theorem fol:Go.Proofs.Tryz.prog.follows .mixedOrders=true:=by kernel_rfl
attribute [simp] fol
def u8row (c:UInt8):List AV:=[.int .u8 c.toNat]
def rdOb (bs:List UInt8) (p:Int):Ob:=⟨2,[[.lst 1 (bs.map u8row),.int .i64 p]]⟩
attribute [local simp] rdOb
theorem pickC (bs:List UInt8) (p n:Int) (hp:0≤p∧p<1000000000) (hb:bs.length≤2000):ACall PP 10 [.ptr 1000 0 0,.int .i64 n] [(1000,rdOb bs p)] (fun r L'=>∃ k:Int,r=.int .i64 k∧(1≤n→0≤k∧k<n)∧(n<1→k=0)∧L'=[(1000,rdOb bs (p+1))]):=by
 have e1:IntKind.i64.wrap (p+1)=p+1:=qao _ (by omega)
 have e2:IntKind.i64.wrap p=p:=qao _ (by omega)
 have e2':p+1-1=p:=by omega
 by_cases hn:n<1
 ·refine acx func10 [(7,[zI 0,zI 1,zI 2,zJ 3 [1000] [],zJ 4 [] [1000],zJ 5 [] [1000],zJ 6 [] [1000],zJ 7 [] [1000],zJ 8 [1000] [1000],zJ 9 [] [1000],zJ 10 [] [1000],zI 11,zI 12,zI 13,zI 14,zJ 15 [] [1000],zJ 16 [] [1000],zJ 17 [] [1000],zJ 18 [1000] [1000],zJ 19 [] [1000],zJ 20 [] [1000],zJ 21 [] [1000],zJ 22 [] [1000],zJ 23 [] [1000],zJ 24 [] [1000],zJ 25 [1000] [1000],zJ 26 [] [1000],zJ 27 [] [1000],zJ 28 [] [1000],zJ 29 [] [1000],zJ 30 [] [1000],zJ 31 [] [1000],zI 32,zJ 33 [] [1000],zJ 34 [] [1000],zI 35,zJ 36 [] [1000],zJ 37 [] [1000],zJ 38 [] [1000],zJ 39 [] [1000],zJ 40 [1000] [1000],zJ 41 [] [1000],zJ 42 [] [1000],zJ 43 [] [1000],zI 44,zI 45])] ntmps10 rfl rfl rfl ?_
  simp[e1,hn]
  omega
 by_cases hb0:bs=[]
 ·subst hb0
  refine acx func10 [(7,[zI 0,zI 1,zI 2,zJ 3 [1000] [],zJ 4 [] [1000],zJ 5 [] [1000],zJ 6 [] [1000],zJ 7 [] [1000],zJ 8 [1000] [1000],zJ 9 [] [1000],zJ 10 [] [1000],zI 11,zI 12,zI 13,zI 14,zJ 15 [] [1000],zJ 16 [] [1000],zJ 17 [] [1000],zJ 18 [1000] [1000],zJ 19 [] [1000],zJ 20 [] [1000],zJ 21 [] [1000],zJ 22 [] [1000],zJ 23 [] [1000],zJ 24 [] [1000],zJ 25 [1000] [1000],zJ 26 [] [1000],zJ 27 [] [1000],zJ 28 [] [1000],zJ 29 [] [1000],zJ 30 [] [1000],zJ 31 [] [1000],zI 32,zJ 33 [] [1000],zJ 34 [] [1000],zI 35,zJ 36 [] [1000],zJ 37 [] [1000],zJ 38 [] [1000],zJ 39 [] [1000],zJ 40 [1000] [1000],zJ 41 [] [1000],zJ 42 [] [1000],zJ 43 [] [1000],zI 44,zI 45])] ntmps10 rfl rfl rfl ?_
  simp[e1,hn]
  omega
 have hl:0<bs.length:=List.length_pos_iff.2 hb0
 by_cases hp2:p<bs.length
 ·have e3:bs[p.toNat]?=some (bs[p.toNat]'(by omega)):=List.getElem?_eq_getElem _
  generalize bs[p.toNat]'(by omega)=b at e3
  have hbr:=b.toNat_lt
  have e4:IntKind.i64.wrap (b.toNat:Int)=b.toNat:=qao _ (by omega)
  refine acx func10 [(7,[zI 0,zI 1,zI 2,zJ 3 [1000] [],zJ 4 [] [1000],zJ 5 [] [1000],zJ 6 [] [1000],zJ 7 [] [1000],zJ 8 [1000] [1000],zJ 9 [] [1000],zJ 10 [] [1000],zI 11,zI 12,zI 13,zI 14,zJ 15 [] [1000],zJ 16 [] [1000],zJ 17 [] [1000],zJ 18 [1000] [1000],zJ 19 [] [1000],zJ 20 [] [1000],zJ 21 [] [1000],zJ 22 [] [1000],zJ 23 [] [1000],zJ 24 [] [1000],zJ 25 [1000] [1000],zJ 26 [] [1000],zJ 27 [] [1000],zJ 28 [] [1000],zJ 29 [] [1000],zJ 30 [] [1000],zJ 31 [] [1000],zI 32,zJ 33 [] [1000],zJ 34 [] [1000],zI 35,zJ 36 [] [1000],zJ 37 [] [1000],zJ 38 [] [1000],zJ 39 [] [1000],zJ 40 [1000] [1000],zJ 41 [] [1000],zJ 42 [] [1000],zJ 43 [] [1000],zI 44,zI 45])] ntmps10 rfl rfl rfl ?_
  simp[e1,e2,hn,hb0,hp2,e3,u8row,e4]
  have:=Int.tmod_nonneg (a:=(b.toNat:Int)) n (by omega)
  have:=Int.tmod_lt_of_pos (b.toNat:Int) (b:=n) (by omega)
  exact⟨by omega,by omega,fun _=>⟨by omega,by omega⟩⟩
 ·have e5:((p.tmod bs.length).toNat)<bs.length:=by
   have:=Int.tmod_lt_of_pos p (b:=bs.length) (by omega)
   have:=Int.tmod_nonneg (a:=p) bs.length (by omega)
   omega
  have e6:(((p * 7+3).tmod bs.length).toNat)<bs.length:=by
   have:=Int.tmod_lt_of_pos (p * 7+3) (b:=bs.length) (by omega)
   have:=Int.tmod_nonneg (a:=p * 7+3) bs.length (by omega)
   omega
  have e7:bs[(p.tmod bs.length).toNat]?=some (bs[(p.tmod bs.length).toNat]):=List.getElem?_eq_getElem _
  have e8:bs[((p * 7+3).tmod bs.length).toNat]?=some (bs[((p * 7+3).tmod bs.length).toNat]):=List.getElem?_eq_getElem _
  generalize bs[(p.tmod bs.length).toNat]=b at e7
  generalize bs[((p * 7+3).tmod bs.length).toNat]=c at e8
  have hbr:=b.toNat_lt
  have hcr:=c.toNat_lt
  have e4:IntKind.i64.wrap (b.toNat:Int)=b.toNat:=qao _ (by omega)
  have e9:IntKind.i64.wrap (c.toNat:Int)=c.toNat:=qao _ (by omega)
  have e10:IntKind.i64.wrap (p * 7)=p * 7:=qao _ (by omega)
  have e11:IntKind.i64.wrap (p * 7+3)=p * 7+3:=qao _ (by omega)
  have e12:IntKind.i64.wrap (b.toNat * 131)=b.toNat * 131:=qao _ (by omega)
  have e13:IntKind.i64.wrap (c.toNat * 1117)=c.toNat * 1117:=qao _ (by omega)
  have e14:IntKind.i64.wrap (p * 29)=p * 29:=qao _ (by omega)
  have e15:IntKind.i64.wrap ((b.toNat:Int) * 131+c.toNat * 1117)=b.toNat * 131+c.toNat * 1117:=qao _ (by omega)
  have hq1:0≤p.tdiv bs.length:=Int.tdiv_nonneg (by omega) (by omega)
  have hq2:p.tdiv bs.length≤p:=by
   rw[Int.tdiv_eq_ediv_of_nonneg (by omega)]
   exact Int.ediv_le_self _ (by omega)
  obtain⟨q,hq⟩:∃ q,p.tdiv bs.length=q:=⟨_,rfl⟩
  rw[hq]at hq1 hq2
  have e16:IntKind.i64.wrap q=q:=qao _ (by omega)
  have e17:IntKind.i64.wrap (q * 53)=q * 53:=qao _ (by omega)
  have e18:IntKind.i64.wrap ((b.toNat:Int) * 131+c.toNat * 1117+p * 29)=b.toNat * 131+c.toNat * 1117+p * 29:=qao _ (by omega)
  have e19:IntKind.i64.wrap ((b.toNat:Int) * 131+c.toNat * 1117+p * 29+q * 53)=b.toNat * 131+c.toNat * 1117+p * 29+q * 53:=qao _ (by omega)
  obtain⟨x,hx⟩:∃ x:Nat,((b.toNat:Int) * 131+c.toNat * 1117+p * 29+q * 53)=x:=⟨(b.toNat * 131+c.toNat * 1117+p * 29+q * 53:Int).toNat,by omega⟩
  have hxb:x<4611686018427387904:=by omega
  rw[hx]at e19
  obtain⟨z,hz⟩:∃ z,x / 64=z:=⟨_,rfl⟩
  have e20:((x:Int).tdiv 64)=(z:Int):=by rw[Int.tdiv_eq_ediv_of_nonneg (by omega)];omega
  have e21:IntKind.i64.wrap (z:Int)=z:=qao _ (by omega)
  obtain⟨e22,hy⟩:=bitI_xor_nat x z hxb (by omega)
  obtain⟨y,hy0⟩:∃ y,x ^^^ z=y:=⟨_,rfl⟩
  rw[hy0]at e22 hy
  refine acx func10 [(7,[zI 0,zI 1,zI 2,zJ 3 [1000] [],zJ 4 [] [1000],zJ 5 [] [1000],zJ 6 [] [1000],zJ 7 [] [1000],zJ 8 [1000] [1000],zJ 9 [] [1000],zJ 10 [] [1000],zI 11,zI 12,zI 13,zI 14,zJ 15 [] [1000],zJ 16 [] [1000],zJ 17 [] [1000],zJ 18 [1000] [1000],zJ 19 [] [1000],zJ 20 [] [1000],zJ 21 [] [1000],zJ 22 [] [1000],zJ 23 [] [1000],zJ 24 [] [1000],zJ 25 [1000] [1000],zJ 26 [] [1000],zJ 27 [] [1000],zJ 28 [] [1000],zJ 29 [] [1000],zJ 30 [] [1000],zJ 31 [] [1000],zI 32,zJ 33 [] [1000],zJ 34 [] [1000],zI 35,zJ 36 [] [1000],zJ 37 [] [1000],zJ 38 [] [1000],zJ 39 [] [1000],zJ 40 [1000] [1000],zJ 41 [] [1000],zJ 42 [] [1000],zJ 43 [] [1000],zI 44,zI 45])] ntmps10 rfl rfl rfl ?_
  simp[e1,e2,hn,hb0,hp2,e7,e8,u8row,e4,e9,e10,e11,e12,e13,e14,e15,hq,e16,e17,e18,hx,e19,e20,e21,e22]
  have h1:=Int.tmod_nonneg (a:=(y:Int)) n (by omega)
  have h2:=Int.tmod_lt_of_pos (y:Int) (b:=n) (by omega)
  have h3:=Int.tmod_lt_of_pos p (b:=bs.length) (by omega)
  have h4:=Int.tmod_nonneg (a:=p) bs.length (by omega)
  have h5:=Int.tmod_lt_of_pos (p * 7+3) (b:=bs.length) (by omega)
  have h6:=Int.tmod_nonneg (a:=p * 7+3) bs.length (by omega)
  exact⟨⟨h4,h3⟩,⟨h6,h5⟩,by omega,fun _=>⟨h1,h2⟩⟩
end Go.Av.F

end
section
namespace Go.Av
open Go.RowKit
def IsRow (k:IntKind) (w:World) (a:Option Addr) (len cap:Nat) (zs:List Int):Prop :=
 (a=none∧len=0∧cap=0∧zs=[]) ∨
 ∃ x,a=some x∧len≤cap∧cap≤maxLen∧zs.length=cap∧(∀ i,i<zs.length→w.cell? (x.add i)=some (.int k (zs.getD i 0)))∧∀ n∈zs,(Lit.int k n).wf=true
def Old (w:World) (p:Addr):Prop:=p.block<w.heap.size
theorem old_cell {w:World} {p:Addr} {v:Value} (h:w.cell? p=some v):Old w p:=World.block_lt_of_cell? w _ h
theorem u8_fit {n:Int} (h:(Lit.int .u8 n).wf=true):((UInt8.ofNat n.toNat).toNat:Int)=n:=by
 have hn:0≤n∧n≤255:=by simpa [Lit.wf,IntKind.min,IntKind.max,IntKind.signed,IntKind.bits]using h
 simp
 omega
theorem lst_rel {w:World} {γ:Gm} {a:Option Addr} {len cap:Nat} {zs:List Int} (h:IsRow .u8 w a len cap zs) :
  ∃ code:List UInt8,code.length=len∧len≤maxLen∧AVRel w (Old w) γ (.lst 1 (code.map F.u8row)) (.slice a len cap):=by
 rcases h with⟨rfl,rfl,rfl,rfl⟩ | ⟨x,rfl,hl,hm,hz,hcell,hwz⟩
 ·exact⟨[],rfl,Nat.zero_le _,.lst _ 1 [] none 0 (fun _ _=>undef) (Nat.le_refl _) (fun h=>absurd rfl h) (fun i hi=>by simp at hi) (fun i j hi=>by simp at hi)⟩
 ·refine⟨(zs.take len).map fun n=>UInt8.ofNat n.toNat,by simp;omega,by omega,?_⟩
  have hlen:(((zs.take len).map fun n=>UInt8.ofNat n.toNat).map F.u8row).length=len:=by simp;omega
  have key:=AVRel.lst (w:=w) (Z:=Old w) γ 1 (((zs.take len).map fun n=>UInt8.ofNat n.toNat).map F.u8row) (some x) cap (fun i _=>.int .u8 (zs.getD i 0)) (by omega)
   (fun hne=>?_) (fun i hi=>?_) (fun i j hi hj=>?_)
  ·rw[hlen]at key;exact key
  ·have h0:0<len:=by
    rcases Nat.eq_zero_or_pos len with h | h
    ·subst h;simp at hne
    ·exact h
   have hs:x.spot=none:=by
    have:=hcell 0 (by omega)
    simpa [Addr.add]using World.cell?_spot this
   have hc:∀ i j,i<len→j<1→w.cell? (x.at (i * 1+j))=some (.int .u8 (zs.getD i 0)):=fun i j hi hj=>by
    have h1:=hcell i (by omega)
    have:x.at (i * 1+j)=x.add i:=by
     obtain⟨b,o,s⟩:=x
     simp only at hs;subst hs
     obtain rfl:j=0:=by omega
     simp only[Addr.at,Addr.add]
     split
     ·rename_i h0;subst h0;simp
     ·simp
    rw[this];exact h1
   rw[hlen]
   exact⟨x,rfl,fun i j hi hj=>old_cell (hc i j hi hj),hs,hc⟩
  ·have hi':i<len:=by rw[hlen]at hi;exact hi
   have hiz:i<zs.length:=by omega
   simp only[List.getD,List.getElem?_map,List.getElem?_take_of_lt hi',List.getElem?_eq_getElem hiz,Option.map_some,Option.getD_some]
   rfl
  ·have hi':i<len:=by rw[hlen]at hi;exact hi
   have hj0:j=0:=by omega
   subst hj0
   have hiz:i<zs.length:=by omega
   have e:((((zs.take len).map fun n=>UInt8.ofNat n.toNat).map F.u8row).getD i []).getD 0 .top=.int .u8 (zs.getD i 0):=by
    simp only[List.getD,List.getElem?_map,List.getElem?_take_of_lt hi',List.getElem?_eq_getElem hiz,Option.map_some,Option.getD_some,F.u8row,List.getElem?_cons_zero]
    rw[u8_fit (hwz _ (List.getElem_mem hiz))]
   rw[e]
   exact .int _ _ _
theorem fr_below {F:Addr→Prop} {w w':World} (h:Fr F w w') (hF:∀ p,¬ F p):Below w.heap.size w w':=by
 refine⟨h.os,h.tape,h.output,h.size,fun k hk=>?_⟩
 rcases h.blk k hk with e | ⟨c,c',ty,fz,h1,h2,h3,h4⟩
 ·exact e
 ·have:c'=c:=Array.ext_getElem? fun i=>h4 i (hF _)
  rw[h1,h2,this]
theorem calls_below {P:Program} {f:Nat} {args:List AV} {v:AV} {u:Value} (hb:hasBody P f=true) {W:World} {vs:Array Value} (hv:CRel W (Old W) noG args vs)
  (hu:∀ (w:World) (Z:Addr→Prop) (γ:Gm) (x:Value),AVRel w Z γ v x→x=u) (hC:ACall P f args [] (fun r L'=>r=v∧L'=[]))
  (hgl:GlR W (Old W):=by intro g cs h;unfold gtab at h;cases h) :
  Calls P f vs W fun e w'=>e=.returned u∧Below W.heap.size W w':=by
 have hno:∀ p,¬ Foot noG (hpOf []) p:=fun p hp=>by
  obtain⟨id,o,r,h,_⟩:=hp
  simp at h
 have h:=hC W (Old W) noG vs hv ⟨fun i x hx=>by simp at hx,fun i j o1 o2 r1 r2 hne g1=>by simp at g1,fun i x rg hx=>by simp at hx,fun p hp=>hp,hgl⟩ (fun id r hr=>by simp[noG]at hr)
 refine(h.calls hb).mono ?_
 rintro e w' ⟨x,r,L',Z',γ',rfl,⟨rfl,rfl⟩,hx,_,hfr,_⟩
 exact⟨by rw[hu _ _ _ _ hx],fr_below hfr hno⟩
theorem bool_only (b:Bool):∀ (w:World) (Z:Addr→Prop) (γ:Gm) (x:Value),AVRel w Z γ (.bool b) x→x=.bool b:=fun w Z γ x h=>by cases h;rfl
end Go.Av

end
