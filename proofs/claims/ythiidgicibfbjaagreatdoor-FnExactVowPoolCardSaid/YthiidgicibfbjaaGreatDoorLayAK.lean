/- Lemmas for the proof, no statement of the seat; no conditions. -/
import Derived.Test.YthiidgicibfbjaaGreatDoorLayAJ
import Derived.Test.YthiidgicibfbjaaGreatDoorProg
import Derived.Below
import Derived.WalkKit
set_option linter.unusedSimpArgs false
set_option linter.unusedVariables false
set_option linter.unnecessarySimpa false
set_option maxRecDepth 100000
set_option maxHeartbeats 400000
section
namespace Go.Av.F
open Go.Av
theorem tt3:qaA Go.Proofs.Tryz.prog 3=some ⟨(.int .i64),1,8,[.int .i64 (0)]⟩:=by kernel_rfl
theorem tt4:qaA Go.Proofs.Tryz.prog 4=some ⟨.bool,1,1,[.bool false]⟩:=by kernel_rfl
theorem tt5:qaA Go.Proofs.Tryz.prog 5=some ⟨(.int .u8),1,1,[.int .u8 (0)]⟩:=by kernel_rfl
theorem tt9:qaA Go.Proofs.Tryz.prog 9=some ⟨.str,1,16,[.str []]⟩:=by kernel_rfl
theorem qmU:qaA Go.Proofs.Tryz.prog 22=some ⟨(.slc 9),1,24,[.nils]⟩:=by kernel_rfl
theorem qFj:qaA Go.Proofs.Tryz.prog 23=some ⟨(.arr 2 22),2,48,[.nils,.nils]⟩:=by kernel_rfl
theorem qFi:qaA Go.Proofs.Tryz.prog 24=some ⟨(.slc 98),1,24,[.nils]⟩:=by kernel_rfl
theorem qFh:qaA Go.Proofs.Tryz.prog 26=some ⟨(.srt [(0,23),(2,24)]),3,72,[.nils,.nils,.nils]⟩:=by kernel_rfl
theorem qES:qaA Go.Proofs.Tryz.prog 29=some ⟨(.slc 115),1,24,[.nils]⟩:=by kernel_rfl
theorem qFg:qaA Go.Proofs.Tryz.prog 31=some ⟨(.srt [(0,23),(2,29)]),3,72,[.nils,.nils,.nils]⟩:=by kernel_rfl
theorem qqa:qaA Go.Proofs.Tryz.prog 35=some ⟨(.slc 3),1,24,[.nils]⟩:=by kernel_rfl
theorem qzw:qaA Go.Proofs.Tryz.prog 42=some ⟨(.slc 108),1,24,[.nils]⟩:=by kernel_rfl
theorem qwi:qaA Go.Proofs.Tryz.prog 43=some ⟨(.slc 110),1,24,[.nils]⟩:=by kernel_rfl
theorem qzv:qaA Go.Proofs.Tryz.prog 44=some ⟨(.slc 67),1,24,[.nils]⟩:=by kernel_rfl
theorem qC3:qaA Go.Proofs.Tryz.prog 46=some ⟨(.srt [(0,3),(1,42),(2,43),(3,44),(4,4),(5,35),(6,3)]),7,120,[.int .i64 (0),.nils,.nils,.nils,.bool false,.nils,.int .i64 (0)]⟩:=by kernel_rfl
theorem qFf:qaA Go.Proofs.Tryz.prog 48=some ⟨(.srt [(0,31),(3,46),(10,4)]),11,200,[.nils,.nils,.nils,.int .i64 (0),.nils,.nils,.nils,.bool false,.nils,.int .i64 (0),.bool false]⟩:=by kernel_rfl
theorem qzu:qaA Go.Proofs.Tryz.prog 53=some ⟨(.slc 245),1,24,[.nils]⟩:=by kernel_rfl
theorem qzt:qaA Go.Proofs.Tryz.prog 54=some ⟨(.slc 250),1,24,[.nils]⟩:=by kernel_rfl
theorem qzs:qaA Go.Proofs.Tryz.prog 55=some ⟨(.slc 242),1,24,[.nils]⟩:=by kernel_rfl
theorem qzr:qaA Go.Proofs.Tryz.prog 57=some ⟨(.srt [(0,3),(1,53),(2,54),(3,55),(4,4),(5,35),(6,3)]),7,120,[.int .i64 (0),.nils,.nils,.nils,.bool false,.nils,.int .i64 (0)]⟩:=by kernel_rfl
theorem qFe:qaA Go.Proofs.Tryz.prog 59=some ⟨(.srt [(0,26),(3,57),(10,4)]),11,200,[.nils,.nils,.nils,.int .i64 (0),.nils,.nils,.nils,.bool false,.nils,.int .i64 (0),.bool false]⟩:=by kernel_rfl
theorem qyN:qaA Go.Proofs.Tryz.prog 67=some ⟨(.srt [(0,3),(1,3),(2,3)]),3,24,[.int .i64 (0),.int .i64 (0),.int .i64 (0)]⟩:=by kernel_rfl
theorem qFd:qaA Go.Proofs.Tryz.prog 98=some ⟨(.srt [(0,3),(1,3),(2,9)]),3,32,[.int .i64 (0),.int .i64 (0),.str []]⟩:=by kernel_rfl
theorem qta:qaA Go.Proofs.Tryz.prog 106=some ⟨(.arr 8 67),24,192,[.int .i64 (0),.int .i64 (0),.int .i64 (0),.int .i64 (0),.int .i64 (0),.int .i64 (0),.int .i64 (0),.int .i64 (0),.int .i64 (0),.int .i64 (0),.int .i64 (0),.int .i64 (0),.int .i64 (0),.int .i64 (0),.int .i64 (0),.int .i64 (0),.int .i64 (0),.int .i64 (0),.int .i64 (0),.int .i64 (0),.int .i64 (0),.int .i64 (0),.int .i64 (0),.int .i64 (0)]⟩:=by kernel_rfl
theorem qqA:qaA Go.Proofs.Tryz.prog 108=some ⟨(.srt [(0,9),(1,3),(2,9),(3,106),(27,67),(30,4)]),31,264,[.str [],.int .i64 (0),.str [],.int .i64 (0),.int .i64 (0),.int .i64 (0),.int .i64 (0),.int .i64 (0),.int .i64 (0),.int .i64 (0),.int .i64 (0),.int .i64 (0),.int .i64 (0),.int .i64 (0),.int .i64 (0),.int .i64 (0),.int .i64 (0),.int .i64 (0),.int .i64 (0),.int .i64 (0),.int .i64 (0),.int .i64 (0),.int .i64 (0),.int .i64 (0),.int .i64 (0),.int .i64 (0),.int .i64 (0),.int .i64 (0),.int .i64 (0),.int .i64 (0),.bool false]⟩:=by kernel_rfl
theorem qm3:qaA Go.Proofs.Tryz.prog 110=some ⟨(.srt [(0,3),(1,3),(2,3)]),3,24,[.int .i64 (0),.int .i64 (0),.int .i64 (0)]⟩:=by kernel_rfl
theorem qzx:qaA Go.Proofs.Tryz.prog 115=some ⟨(.srt [(0,3),(1,3),(2,9)]),3,32,[.int .i64 (0),.int .i64 (0),.str []]⟩:=by kernel_rfl
theorem qwj:qaA Go.Proofs.Tryz.prog 127=some ⟨(.slc 136),1,24,[.nils]⟩:=by kernel_rfl
theorem qcW:qaA Go.Proofs.Tryz.prog 129=some ⟨(.slc 210),1,24,[.nils]⟩:=by kernel_rfl
theorem qdc:qaA Go.Proofs.Tryz.prog 131=some ⟨(.srt [(0,129)]),1,24,[.nils]⟩:=by kernel_rfl
theorem qdL:qaA Go.Proofs.Tryz.prog 136=some ⟨(.srt [(0,3),(1,9),(2,9),(3,3),(4,9)]),5,64,[.int .i64 (0),.str [],.str [],.int .i64 (0),.str []]⟩:=by kernel_rfl
theorem qDb:qaA Go.Proofs.Tryz.prog 145=some ⟨(.ptr 150),1,8,[.nilp]⟩:=by kernel_rfl
theorem qDa:qaA Go.Proofs.Tryz.prog 150=some ⟨(.srt [(0,31),(3,46),(10,35),(11,31),(14,31)]),17,360,[.nils,.nils,.nils,.int .i64 (0),.nils,.nils,.nils,.bool false,.nils,.int .i64 (0),.nils,.nils,.nils,.nils,.nils,.nils,.nils]⟩:=by kernel_rfl
theorem qdb:qaA Go.Proofs.Tryz.prog 208=some ⟨(.arr 8 9),8,128,[.str [],.str [],.str [],.str [],.str [],.str [],.str [],.str []]⟩:=by kernel_rfl
theorem qcV:qaA Go.Proofs.Tryz.prog 210=some ⟨(.srt [(0,9),(1,3),(2,9),(3,208)]),11,168,[.str [],.int .i64 (0),.str [],.str [],.str [],.str [],.str [],.str [],.str [],.str [],.str []]⟩:=by kernel_rfl
theorem qC9:qaA Go.Proofs.Tryz.prog 222=some ⟨(.srt [(0,31),(3,35),(4,3),(5,4)]),6,112,[.nils,.nils,.nils,.nils,.int .i64 (0),.bool false]⟩:=by kernel_rfl
theorem qC8:qaA Go.Proofs.Tryz.prog 227=some ⟨(.srt [(0,3),(1,3),(2,136)]),7,80,[.int .i64 (0),.int .i64 (0),.int .i64 (0),.str [],.str [],.int .i64 (0),.str []]⟩:=by kernel_rfl
theorem qcp:qaA Go.Proofs.Tryz.prog 237=some ⟨(.slc 5),1,24,[.nils]⟩:=by kernel_rfl
theorem qqz:qaA Go.Proofs.Tryz.prog 242=some ⟨(.srt [(0,3),(1,3),(2,3)]),3,24,[.int .i64 (0),.int .i64 (0),.int .i64 (0)]⟩:=by kernel_rfl
theorem qqy:qaA Go.Proofs.Tryz.prog 243=some ⟨(.arr 8 242),24,192,[.int .i64 (0),.int .i64 (0),.int .i64 (0),.int .i64 (0),.int .i64 (0),.int .i64 (0),.int .i64 (0),.int .i64 (0),.int .i64 (0),.int .i64 (0),.int .i64 (0),.int .i64 (0),.int .i64 (0),.int .i64 (0),.int .i64 (0),.int .i64 (0),.int .i64 (0),.int .i64 (0),.int .i64 (0),.int .i64 (0),.int .i64 (0),.int .i64 (0),.int .i64 (0),.int .i64 (0)]⟩:=by kernel_rfl
theorem qqx:qaA Go.Proofs.Tryz.prog 245=some ⟨(.srt [(0,9),(1,3),(2,9),(3,243),(27,242),(30,4)]),31,264,[.str [],.int .i64 (0),.str [],.int .i64 (0),.int .i64 (0),.int .i64 (0),.int .i64 (0),.int .i64 (0),.int .i64 (0),.int .i64 (0),.int .i64 (0),.int .i64 (0),.int .i64 (0),.int .i64 (0),.int .i64 (0),.int .i64 (0),.int .i64 (0),.int .i64 (0),.int .i64 (0),.int .i64 (0),.int .i64 (0),.int .i64 (0),.int .i64 (0),.int .i64 (0),.int .i64 (0),.int .i64 (0),.int .i64 (0),.int .i64 (0),.int .i64 (0),.int .i64 (0),.bool false]⟩:=by kernel_rfl
theorem qqw:qaA Go.Proofs.Tryz.prog 250=some ⟨(.srt [(0,3),(1,3),(2,3)]),3,24,[.int .i64 (0),.int .i64 (0),.int .i64 (0)]⟩:=by kernel_rfl
theorem qC7:qaA Go.Proofs.Tryz.prog 262=some ⟨.ifc,1,16,[.nili]⟩:=by kernel_rfl
theorem qC6:qaA Go.Proofs.Tryz.prog 270=some ⟨(.arr 3 3),3,24,[.int .i64 (0),.int .i64 (0),.int .i64 (0)]⟩:=by kernel_rfl
theorem qpp:qaA Go.Proofs.Tryz.prog 277=some ⟨(.int .u64),1,8,[.int .u64 (0)]⟩:=by kernel_rfl
theorem qC5:qaA Go.Proofs.Tryz.prog 314=some ⟨(.int .u32),1,4,[.int .u32 (0)]⟩:=by kernel_rfl
theorem qC4:qaA Go.Proofs.Tryz.prog 316=some ⟨(.int .u64),1,8,[.int .u64 (0)]⟩:=by kernel_rfl
theorem qqv:qaA Go.Proofs.Tryz.prog 333=some ⟨(.arr 256 4),256,256,List.replicate 256 (.bool false)⟩:=by kernel_rfl
end Go.Av.F
end
section
namespace Go.Av.F
open Go Go.Av
set_option linter.constructorNameAsVariable false
def qik:ACode :=
  .seq (.seq (.reg [⟨none,some 53,(Op.move (Operand.tmp 5))⟩,
      ⟨none,some 54,(Op.binOp BinOp.lss 3 (Operand.tmp 53) (Operand.const (Value.int IntKind.i64 8)) 3)⟩])
   (.cond (Operand.tmp 54) (.skip) (.exit 2)))
  (.seq (.block 3 (.seq (.reg [⟨none,some 57,(Op.move (Operand.tmp 5))⟩,
        ⟨none,some 58,(Op.fieldAddr 210 (Operand.tmp 4) 3)⟩,
        ⟨none,some 59,(Op.indexAddr 208 (Operand.tmp 58) (Operand.tmp 57))⟩,
        ⟨none,some 60,(Op.load 9 (Operand.tmp 59))⟩,
        ⟨none,some 61,(Op.call ⟨(Callee.builtin Builtin.len),#[(Operand.tmp 60)],#[9]⟩)⟩,
        ⟨none,some 62,(Op.binOp BinOp.gtr 3 (Operand.tmp 61) (Operand.const (Value.int IntKind.i64 24)) 3)⟩])
     (.cond (Operand.tmp 62) (.seq (.reg [⟨none,some 2,(Op.assign (Operand.const (Value.bool false)))⟩])
       (.ret)) (.skip))))
   (.reg [⟨none,some 55,(Op.move (Operand.tmp 5))⟩,
      ⟨none,some 56,(Op.binOp BinOp.add 3 (Operand.tmp 55) (Operand.const (Value.int IntKind.i64 1)) 3)⟩,
      ⟨none,some 5,(Op.assign (Operand.tmp 56))⟩]))
def qlq:ACode :=
  .seq (.seq (.reg [⟨none,some 11,(Op.move (Operand.tmp 3))⟩,
      ⟨none,some 12,(Op.fieldAddr 131 (Operand.tmp 1) 0)⟩,
      ⟨none,some 13,(Op.load 129 (Operand.tmp 12))⟩,
      ⟨none,some 14,(Op.call ⟨(Callee.builtin Builtin.len),#[(Operand.tmp 13)],#[129]⟩)⟩,
      ⟨none,some 15,(Op.binOp BinOp.lss 3 (Operand.tmp 11) (Operand.tmp 14) 3)⟩])
   (.cond (Operand.tmp 15) (.skip) (.exit 0)))
  (.seq (.block 1 (.seq (.reg [⟨none,some 18,(Op.fieldAddr 131 (Operand.tmp 1) 0)⟩,
        ⟨none,some 19,(Op.load 129 (Operand.tmp 18))⟩,
        ⟨none,some 20,(Op.move (Operand.tmp 3))⟩,
        ⟨none,some 21,(Op.indexAddr 129 (Operand.tmp 19) (Operand.tmp 20))⟩,
        ⟨none,some 22,(Op.load 210 (Operand.tmp 21))⟩,
        ⟨none,some 4,(Op.alloc 210)⟩,
        ⟨none,none,(Op.store 210 (Operand.tmp 4) (Operand.tmp 22))⟩])
     (.seq (.seq (.draw [⟨⟨none,some 23,(Op.fieldAddr 210 (Operand.tmp 4) 0)⟩,[],[],[]⟩,
          ⟨⟨none,some 24,(Op.load 9 (Operand.tmp 23))⟩,[4],[],[]⟩,
          ⟨⟨none,some 25,(Op.call ⟨(Callee.value (Operand.func 246)),#[(Operand.tmp 24)],#[9]⟩)⟩,[],[],[]⟩,
          ⟨⟨none,some 26,(Op.unOp UnOp.not 4 (Operand.tmp 25))⟩,[],[],[]⟩,
          ⟨⟨none,some 27,(Op.move (Operand.tmp 26))⟩,[],[],[]⟩,
          ⟨⟨some (27,false),some 28,(Op.move (Operand.tmp 3))⟩,[],[],[]⟩,
          ⟨⟨some (27,false),some 29,(Op.binOp BinOp.gtr 3 (Operand.tmp 28) (Operand.const (Value.int IntKind.i64 0)) 3)⟩,[],[],[]⟩,
          ⟨⟨some (27,false),some 30,(Op.move (Operand.tmp 29))⟩,[],[],[]⟩,
          ⟨⟨some (30,true),some 31,(Op.fieldAddr 210 (Operand.tmp 4) 0)⟩,[],[],[]⟩,
          ⟨⟨some (30,true),some 32,(Op.load 9 (Operand.tmp 31))⟩,[4],[],[]⟩,
          ⟨⟨some (30,true),some 33,(Op.fieldAddr 131 (Operand.tmp 1) 0)⟩,[],[4],[]⟩,
          ⟨⟨some (30,true),some 34,(Op.load 129 (Operand.tmp 33))⟩,[1],[4],[]⟩,
          ⟨⟨some (30,true),some 35,(Op.move (Operand.tmp 3))⟩,[],[4,1],[]⟩,
          ⟨⟨some (30,true),some 36,(Op.binOp BinOp.sub 3 (Operand.tmp 35) (Operand.const (Value.int IntKind.i64 1)) 3)⟩,[],[4,1],[]⟩,
          ⟨⟨some (30,true),some 37,(Op.indexAddr 129 (Operand.tmp 34) (Operand.tmp 36))⟩,[],[4],[]⟩,
          ⟨⟨some (30,true),some 38,(Op.fieldAddr 210 (Operand.tmp 37) 0)⟩,[],[4],[]⟩,
          ⟨⟨some (30,true),some 39,(Op.load 9 (Operand.tmp 38))⟩,[],[4],[]⟩,
          ⟨⟨some (30,true),some 40,(Op.binOp BinOp.leq 9 (Operand.tmp 32) (Operand.tmp 39) 9)⟩,[],[],[]⟩,
          ⟨⟨some (27,false),some 41,(Op.pick (Operand.tmp 30) (Operand.tmp 40) (Operand.const (Value.bool false)))⟩,[],[],[]⟩,
          ⟨⟨none,some 42,(Op.pick (Operand.tmp 27) (Operand.const (Value.bool true)) (Operand.tmp 41))⟩,[],[],[]⟩,
          ⟨⟨none,some 43,(Op.move (Operand.tmp 42))⟩,[],[],[]⟩,
          ⟨⟨some (43,false),some 44,(Op.fieldAddr 210 (Operand.tmp 4) 1)⟩,[],[],[]⟩,
          ⟨⟨some (43,false),some 45,(Op.load 3 (Operand.tmp 44))⟩,[4],[],[]⟩,
          ⟨⟨some (43,false),some 46,(Op.binOp BinOp.lss 3 (Operand.tmp 45) (Operand.const (Value.int IntKind.i64 1)) 3)⟩,[],[],[]⟩,
          ⟨⟨none,some 47,(Op.pick (Operand.tmp 43) (Operand.const (Value.bool true)) (Operand.tmp 46))⟩,[],[],[]⟩,
          ⟨⟨none,some 48,(Op.move (Operand.tmp 47))⟩,[],[],[]⟩,
          ⟨⟨some (48,false),some 49,(Op.fieldAddr 210 (Operand.tmp 4) 1)⟩,[],[],[]⟩,
          ⟨⟨some (48,false),some 50,(Op.load 3 (Operand.tmp 49))⟩,[4],[],[]⟩,
          ⟨⟨some (48,false),some 51,(Op.binOp BinOp.gtr 3 (Operand.tmp 50) (Operand.const (Value.int IntKind.i64 2)) 3)⟩,[],[],[]⟩,
          ⟨⟨none,some 52,(Op.pick (Operand.tmp 48) (Operand.const (Value.bool true)) (Operand.tmp 51))⟩,[],[],[]⟩])
       (.cond (Operand.tmp 52) (.seq (.reg [⟨none,some 2,(Op.assign (Operand.const (Value.bool false)))⟩])
         (.ret)) (.skip)))
      (.seq (.reg [⟨none,some 5,(Op.assign (Operand.const (Value.int IntKind.i64 0)))⟩])
       (.block 2 (.loop qik))))))
   (.reg [⟨none,some 16,(Op.move (Operand.tmp 3))⟩,
      ⟨none,some 17,(Op.binOp BinOp.add 3 (Operand.tmp 16) (Operand.const (Value.int IntKind.i64 1)) 3)⟩,
      ⟨none,some 3,(Op.assign (Operand.tmp 17))⟩]))
def qij:ACode :=
  .seq (.seq (.reg [⟨none,some 63,(Op.move (Operand.tmp 6))⟩,
      ⟨none,some 64,(Op.fieldAddr 131 (Operand.tmp 1) 0)⟩,
      ⟨none,some 65,(Op.load 129 (Operand.tmp 64))⟩,
      ⟨none,some 66,(Op.call ⟨(Callee.builtin Builtin.len),#[(Operand.tmp 65)],#[129]⟩)⟩,
      ⟨none,some 67,(Op.binOp BinOp.lss 3 (Operand.tmp 63) (Operand.tmp 66) 3)⟩])
   (.cond (Operand.tmp 67) (.skip) (.exit 4)))
  (.seq (.block 5 (.seq (.draw [⟨⟨none,some 70,(Op.load 131 (Operand.tmp 1))⟩,[1],[],[]⟩,
        ⟨⟨none,some 71,(Op.fieldAddr 131 (Operand.tmp 1) 0)⟩,[],[1],[]⟩,
        ⟨⟨none,some 72,(Op.load 129 (Operand.tmp 71))⟩,[1],[1],[]⟩,
        ⟨⟨none,some 73,(Op.move (Operand.tmp 6))⟩,[],[1],[]⟩,
        ⟨⟨none,some 74,(Op.indexAddr 129 (Operand.tmp 72) (Operand.tmp 73))⟩,[],[1],[]⟩,
        ⟨⟨none,some 75,(Op.load 210 (Operand.tmp 74))⟩,[],[1],[]⟩,
        ⟨⟨none,some 76,(Op.call ⟨(Callee.value (Operand.func 247)),#[(Operand.tmp 70),(Operand.tmp 75)],#[131,210]⟩)⟩,[],[],[]⟩,
        ⟨⟨none,some 77,(Op.unOp UnOp.not 4 (Operand.tmp 76))⟩,[],[],[]⟩])
     (.cond (Operand.tmp 77) (.seq (.reg [⟨none,some 2,(Op.assign (Operand.const (Value.bool false)))⟩])
       (.ret)) (.skip))))
   (.reg [⟨none,some 68,(Op.move (Operand.tmp 6))⟩,
      ⟨none,some 69,(Op.binOp BinOp.add 3 (Operand.tmp 68) (Operand.const (Value.int IntKind.i64 1)) 3)⟩,
      ⟨none,some 6,(Op.assign (Operand.tmp 69))⟩]))
def qyL:ACode :=
  .seq (.reg [⟨none,some 1,(Op.box 131 (Operand.tmp 0))⟩,
     ⟨none,some 2,(Op.assign (Operand.const (Value.bool false)))⟩])
  (.seq (.seq (.reg [⟨none,some 7,(Op.fieldAddr 131 (Operand.tmp 1) 0)⟩,
       ⟨none,some 8,(Op.load 129 (Operand.tmp 7))⟩,
       ⟨none,some 9,(Op.call ⟨(Callee.builtin Builtin.len),#[(Operand.tmp 8)],#[129]⟩)⟩,
       ⟨none,some 10,(Op.binOp BinOp.gtr 3 (Operand.tmp 9) (Operand.const (Value.int IntKind.i64 6)) 3)⟩])
    (.cond (Operand.tmp 10) (.seq (.reg [⟨none,some 2,(Op.assign (Operand.const (Value.bool false)))⟩])
      (.ret)) (.skip)))
   (.seq (.seq (.reg [⟨none,some 3,(Op.assign (Operand.const (Value.int IntKind.i64 0)))⟩])
     (.block 0 (.loop qlq)))
    (.seq (.seq (.reg [⟨none,some 6,(Op.assign (Operand.const (Value.int IntKind.i64 0)))⟩])
      (.block 4 (.loop qij)))
     (.seq (.reg [⟨none,some 2,(Op.assign (Operand.const (Value.bool true)))⟩])
      (.ret)))))
theorem qzn {args:List AV} {L:List (Nat×Ob)} {R:AV→List (Nat×Ob)→Prop} (ha:args.length≤78) (hL:(L.map (·.1)).Nodup)
  (h:ev Go.Proofs.Tryz.prog ⟨78,L.map (·.1)⟩ qyL (qof Go.Proofs.Tryz.prog [(ResultVar.tmp 2)] R) ⟨qsT args,qaQ L,Us.of (L.map (·.1))⟩):ACall Go.Proofs.Tryz.prog 161 args L R :=
 qsV (by kernel_rfl) 78 [(7,[⟨0,[],[],[],[1,2,3,4,5,6,7,8,9,10,11,12,13,14,15,16,17,18,19,20,21,22,23,24,25,26,27,28,29]⟩,⟨1,[4],[],[],[2,3,4,5,6,7,8,9,10,11,12,13,14,15,16,17,18,19,20,21,22,23,24,25,26,27,28,29]⟩,⟨2,[],[],[],[3,4,5,6,7,8,9,10,11,12,13,14,15,16,17,18,19,20,21,22,23,24,25,26,27,28,29]⟩,⟨3,[],[],[],[4,5,6,7,8,9,10,11,12,13,14,15,16,17,18,19,20,21,22,23,24,25,26,27,28,29]⟩,⟨4,[],[],[],[5,6,7,8,9,10,11,12,13,14,15,16,17,18,19,20,21,22,23,24,25,26,27,28,29]⟩,⟨5,[],[],[],[6,7,8,9,10,11,12,13,14,15,16,17,18,19,20,21,22,23,24,25,26,27,28,29]⟩,⟨6,[],[],[],[7,8,9,10,11,12,13,14,15,16,17,18,19,20,21,22,23,24,25,26,27,28,29]⟩,⟨7,[],[],[],[8,9,10,11,12,13,14,15,16,17,18,19,20,21,22,23,24,25,26,27,28,29]⟩,⟨8,[],[],[],[9,17,18,19,20,21,22,23,24,25,26,27,28,29]⟩,⟨9,[4],[],[],[17,18,19,20,21,22,23,24,25,26,27,28,29]⟩,⟨10,[],[4],[],[11,14,15,16,17,18,19,20,21,22,23,24,25,26,27,28,29]⟩,⟨11,[1],[4],[],[14,15,16,17,18,19,20,21,22,23,24,25,26,27,28,29]⟩,⟨12,[],[4,1],[],[13,14,15,16,17,18,19,20,21,22,23,24,25,26,27,28,29]⟩,⟨13,[],[4,1],[],[14,15,16,17,18,19,20,21,22,23,24,25,26,27,28,29]⟩,⟨14,[],[4],[],[15,16,17,18,19,20,21,22,23,24,25,26,27,28,29]⟩,⟨15,[],[4],[],[16,17,18,19,20,21,22,23,24,25,26,27,28,29]⟩,⟨16,[],[4],[],[17,18,19,20,21,22,23,24,25,26,27,28,29]⟩,⟨17,[],[],[],[18,19,20,21,22,23,24,25,26,27,28,29]⟩,⟨18,[],[],[],[19,20,21,22,23,24,25,26,27,28,29]⟩,⟨19,[],[],[],[20,21,22,23,24,25,26,27,28,29]⟩,⟨20,[],[],[],[21,22,23,24,25,26,27,28,29]⟩,⟨21,[],[],[],[22,23,24,25,26,27,28,29]⟩,⟨22,[4],[],[],[23,24,25,26,27,28,29]⟩,⟨23,[],[],[],[24,25,26,27,28,29]⟩,⟨24,[],[],[],[25,26,27,28,29]⟩,⟨25,[],[],[],[26,27,28,29]⟩,⟨26,[],[],[],[27,28,29]⟩,⟨27,[4],[],[],[28,29]⟩,⟨28,[],[],[],[29]⟩,zI 29]),(17,[⟨0,[1],[],[],[6,7]⟩,⟨1,[],[1],[],[2,4,5,6,7]⟩,⟨2,[1],[1],[],[4,5,6,7]⟩,⟨3,[],[1],[],[4,5,6,7]⟩,⟨4,[],[1],[],[5,6,7]⟩,⟨5,[],[1],[],[6,7]⟩,⟨6,[],[],[],[7]⟩,zI 7])] [(ResultVar.tmp 2)] Go.Proofs.Tryz.func161 (by kernel_rfl) Go.Proofs.Tryz.ntmps161 (by kernel_rfl) ha hL (qbE _ h)
end Go.Av.F
end
section
namespace Go.Av.F
open Go Go.Av
open Go.Proofs Go.Proofs.Tryz
attribute [-simp] qdQ hdS qao qae qap
attribute [local simp] tt3 tt4 tt9 tt5 qcp
def qmX (c:UInt8):Bool:=!(decide (c<97) || decide (97+25<c))
def qbR (s:List UInt8):Bool:=s.all qmX && decide (0<s.length) && decide (s.length≤6)
theorem qeD {α:Type} (p:α→Bool) (l:List α) (i:Nat) (x:α) (h:l[i]?=some x):(l.take (i+1)).all p=((l.take i).all p && p x):=by
 rw[qHN,h];simp
theorem qlm (s:List UInt8) (hs:s.length<4611686018427387904):ACall Go.Proofs.Tryz.prog 246 [.str s] [] (fun r L'=>r=.bool (qbR s)∧L'=[]):=by
 refine acx func246 [] ntmps246 rfl rfl rfl ?_;simp;refine qaR (X:=Nat) [0,2,3] (fun i=>⟨mkT [(0,.str s),(2,.bool false),(3,.int .i64 i)],qaQ [],Us.of []⟩) (fun i=>s.length-i) (fun i=>i≤s.length∧(s.take i).all qmX=true) 0 ⟨by simp,[],by simp[qae],by simp[qao]⟩ ?_;rintro i ⟨hi,ha⟩
 skip
 by_cases h1:i<s.length
 ·obtain⟨x,e0⟩:∃ x,s[i]=x:=⟨_,rfl⟩;have e1:s[i]?=some x:=by rw[← e0];exact qF3 h1
  have e2:IntKind.i64.wrap ((i:Int)+1)=((i+1:Nat):Int):=by rw[qax _ (by omega)];omega
  have hbad:qmX x=false→qbR s=false:=fun hx=>by
   have hm:x∈s:=qHT e1;have:s.all qmX=false:=by rw[qHU];exact⟨x,hm,by simp[hx]⟩
   simp[qbR,this]
  simp[h1,e0,e1,e2];refine⟨fun h2=>⟨fun h3=>hbad ?_,fun h3=>qau (i+1) (by omega) ⟨by omega,?_⟩ [] (by simp[qae]) (by simp[qao])⟩,fun h2=>hbad ?_⟩
  ·simp[qmX,qHV];omega
  ·have:=qeD qmX s i x e1;rw[ha]at this;have hx:qmX x=true:=by simp[qmX,qHV];omega
   rw[hx]at this;simpa using this
  ·simp[qmX,qHV];omega
 ·have hi':i=s.length:=by omega
  subst hi';rw[qHW]at ha;simp[h1];refine⟨fun h=>?_,fun h=>?_⟩
  ·simp[qbR,ha,h];omega
  ·subst h;simp[qbR]
end Go.Av.F
end
section
namespace Go.Av.F
open Go Go.Av
open Go.Proofs Go.Proofs.Tryz
attribute [-simp] qdQ hdS qao qae qap
attribute [local simp] tt3 tt4 tt9 tt5 qcp
theorem fol:Go.Proofs.Tryz.prog.follows .mixedOrders=true:=by kernel_rfl
attribute [simp] fol
def qgG (c:UInt8):List AV:=[.int .u8 c.toNat]
def qAw (bs:List UInt8) (p:Int):Ob:=⟨2,[[.lst 1 (bs.map qgG),.int .i64 p]]⟩
attribute [local simp] qAw
end Go.Av.F
end
section
namespace Go.Av
open Go.RowKit
def Old (w:World) (p:Addr):Prop:=p.block<w.heap.size
theorem qtN {w:World} {p:Addr} {v:Value} (h:w.cell? p=some v):Old w p:=World.block_lt_of_cell? w _ h
theorem qud {F:Addr→Prop} {w w':World} (h:Fr F w w') (hF:∀ p,¬ F p):Below w.heap.size w w':=by
 refine⟨h.os,h.tape,h.output,h.size,fun k hk=>?_⟩;rcases h.blk k hk with e | ⟨c,c',ty,fz,h1,h2,h3,h4⟩
 ·exact e
 ·have:c'=c:=qFP fun i=>h4 i (hF _);rw[h1,h2,this]
theorem calls_below {P:Program} {f:Nat} {args:List AV} {v:AV} {u:Value} (hb:hasBody P f=true) {W:World} {vs:Array Value} (hv:CRel W (Old W) noG args vs)
  (hu:∀ (w:World) (Z:Addr→Prop) (γ:Gm) (x:Value),AVRel w Z γ v x→x=u) (hC:ACall P f args [] (fun r L'=>r=v∧L'=[]))
  (hgl:GlR W (Old W):=by intro g cs h;unfold gtab at h;cases h) :
  Calls P f vs W fun e w'=>e=.returned u∧Below W.heap.size W w':=by
 have hno:∀ p,¬ qjt noG (qaQ []) p:=fun p hp=>by
  obtain⟨id,o,r,h,_⟩:=hp;simp at h
 have h:=hC W (Old W) noG vs hv ⟨fun i x hx=>by simp at hx,fun i j o1 o2 r1 r2 hne g1=>by simp at g1,fun i x rg hx=>by simp at hx,fun p hp=>hp,hgl⟩ (fun id r hr=>by simp[noG]at hr);refine(h.calls hb).mono ?_;rintro e w' ⟨x,r,L',Z',γ',rfl,⟨rfl,rfl⟩,hx,_,hfr,_⟩;exact⟨by rw[hu _ _ _ _ hx],qud hfr hno⟩
theorem bool_only (b:Bool):∀ (w:World) (Z:Addr→Prop) (γ:Gm) (x:Value),AVRel w Z γ (.bool b) x→x=.bool b:=fun w Z γ x h=>by cases h;rfl
end Go.Av
end
