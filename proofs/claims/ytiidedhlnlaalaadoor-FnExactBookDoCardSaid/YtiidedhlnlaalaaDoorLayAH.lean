/- Lemmas for the proof, no statement of the seat; no conditions. -/
import Derived.Test.YtiidedhlnlaalaaDoorLayAG
import Derived.Test.YtiidedhlnlaalaaDoorProg
section
namespace Go.Av.F
open Go Go.Av
set_option maxRecDepth 100000
set_option linter.constructorNameAsVariable false
def ac62_l0 : ACode :=
  .seq (.seq (.reg [⟨none, some 4, (Op.move (Operand.tmp 3))⟩,
      ⟨none, some 5, (Op.move (Operand.tmp 0))⟩,
      ⟨none, some 6, (Op.call ⟨(Callee.builtin Builtin.len), #[(Operand.tmp 5)], #[9]⟩)⟩,
      ⟨none, some 7, (Op.binOp BinOp.lss 3 (Operand.tmp 4) (Operand.tmp 6) 3)⟩])
   (.cond (Operand.tmp 7) (.skip) (.exit 0)))
  (.seq (.block 1 (.seq (.reg [⟨none, some 10, (Op.move (Operand.tmp 0))⟩,
        ⟨none, some 11, (Op.move (Operand.tmp 3))⟩,
        ⟨none, some 12, (Op.index 9 (Operand.tmp 10) (Operand.tmp 11))⟩,
        ⟨none, some 13, (Op.binOp BinOp.lss 5 (Operand.tmp 12) (Operand.const (Value.int IntKind.u8 97)) 5)⟩,
        ⟨none, some 14, (Op.move (Operand.tmp 13))⟩,
        ⟨some (14, false), some 15, (Op.move (Operand.tmp 0))⟩,
        ⟨some (14, false), some 16, (Op.move (Operand.tmp 3))⟩,
        ⟨some (14, false), some 17, (Op.index 9 (Operand.tmp 15) (Operand.tmp 16))⟩,
        ⟨some (14, false), some 18, (Op.binOp BinOp.gtr 5 (Operand.tmp 17) (Operand.const (Value.int IntKind.u8 122)) 5)⟩,
        ⟨none, some 19, (Op.pick (Operand.tmp 14) (Operand.const (Value.bool true)) (Operand.tmp 18))⟩])
     (.cond (Operand.tmp 19) (.seq (.reg [⟨none, some 2, (Op.assign (Operand.const (Value.bool false)))⟩])
       (.ret)) (.skip))))
   (.reg [⟨none, some 8, (Op.move (Operand.tmp 3))⟩,
      ⟨none, some 9, (Op.binOp BinOp.add 3 (Operand.tmp 8) (Operand.const (Value.int IntKind.i64 1)) 3)⟩,
      ⟨none, some 3, (Op.assign (Operand.tmp 9))⟩]))
def ac62 : ACode :=
  .seq (.reg [⟨none, some 2, (Op.assign (Operand.const (Value.bool false)))⟩])
  (.seq (.seq (.reg [⟨none, some 3, (Op.assign (Operand.const (Value.int IntKind.i64 0)))⟩])
    (.block 0 (.loop ac62_l0)))
   (.seq (.reg [⟨none, some 20, (Op.move (Operand.tmp 0))⟩,
       ⟨none, some 21, (Op.call ⟨(Callee.builtin Builtin.len), #[(Operand.tmp 20)], #[9]⟩)⟩,
       ⟨none, some 22, (Op.binOp BinOp.gtr 3 (Operand.tmp 21) (Operand.const (Value.int IntKind.i64 0)) 3)⟩,
       ⟨none, some 23, (Op.move (Operand.tmp 22))⟩,
       ⟨some (23, true), some 24, (Op.move (Operand.tmp 0))⟩,
       ⟨some (23, true), some 25, (Op.call ⟨(Callee.builtin Builtin.len), #[(Operand.tmp 24)], #[9]⟩)⟩,
       ⟨some (23, true), some 26, (Op.binOp BinOp.leq 3 (Operand.tmp 25) (Operand.const (Value.int IntKind.i64 6)) 3)⟩,
       ⟨none, some 27, (Op.pick (Operand.tmp 23) (Operand.tmp 26) (Operand.const (Value.bool false)))⟩,
       ⟨none, some 2, (Op.assign (Operand.tmp 27))⟩])
    (.ret)))
theorem vc62 {args : List AV} {L : List (Nat × Ob)} {R : AV → List (Nat × Ob) → Prop} (ha : args.length ≤ 28) (hL : (L.map (·.1)).Nodup)
    (h : ev Go.Proofs.Tryd.prog ⟨28, L.map (·.1)⟩ ac62 (retQ Go.Proofs.Tryd.prog [(ResultVar.tmp 2)] R) ⟨argT args, hpOf L, Us.of (L.map (·.1))⟩) : ACall Go.Proofs.Tryd.prog 62 args L R :=
  acallA (by kernel_rfl) 28 [] [(ResultVar.tmp 2)] Go.Proofs.Tryd.func62 (by kernel_rfl) Go.Proofs.Tryd.ntmps62 (by kernel_rfl) ha hL (va_of_ev _ h)
theorem en62 : enters Go.Proofs.Tryd.prog 62 = true := by kernel_rfl
theorem en116 : enters Go.Proofs.Tryd.prog 116 = true := by kernel_rfl
theorem en115 : enters Go.Proofs.Tryd.prog 115 = true := by kernel_rfl
theorem en117 : enters Go.Proofs.Tryd.prog 117 = true := by kernel_rfl
theorem en55 : enters Go.Proofs.Tryd.prog 55 = true := by kernel_rfl
def ac125_l0 : ACode :=
  .seq (.seq (.reg [⟨none, some 7, (Op.move (Operand.tmp 6))⟩,
      ⟨none, some 8, (Op.fieldAddr 25 (Operand.tmp 2) 0)⟩,
      ⟨none, some 9, (Op.load 23 (Operand.tmp 8))⟩,
      ⟨none, some 10, (Op.call ⟨(Callee.builtin Builtin.len), #[(Operand.tmp 9)], #[23]⟩)⟩,
      ⟨none, some 11, (Op.binOp BinOp.lss 3 (Operand.tmp 7) (Operand.tmp 10) 3)⟩,
      ⟨none, some 12, (Op.move (Operand.tmp 11))⟩,
      ⟨some (12, true), some 13, (Op.fieldAddr 25 (Operand.tmp 2) 0)⟩,
      ⟨some (12, true), some 14, (Op.load 23 (Operand.tmp 13))⟩,
      ⟨some (12, true), some 15, (Op.move (Operand.tmp 6))⟩,
      ⟨some (12, true), some 16, (Op.indexAddr 23 (Operand.tmp 14) (Operand.tmp 15))⟩,
      ⟨some (12, true), some 17, (Op.fieldAddr 35 (Operand.tmp 16) 0)⟩,
      ⟨some (12, true), some 18, (Op.load 9 (Operand.tmp 17))⟩,
      ⟨some (12, true), some 19, (Op.move (Operand.tmp 1))⟩,
      ⟨some (12, true), some 20, (Op.binOp BinOp.lss 9 (Operand.tmp 18) (Operand.tmp 19) 9)⟩,
      ⟨none, some 21, (Op.pick (Operand.tmp 12) (Operand.tmp 20) (Operand.const (Value.bool false)))⟩])
   (.cond (Operand.tmp 21) (.skip) (.exit 0)))
  (.block 1 (.reg [⟨none, some 22, (Op.move (Operand.tmp 6))⟩,
      ⟨none, some 23, (Op.binOp BinOp.add 3 (Operand.tmp 22) (Operand.const (Value.int IntKind.i64 1)) 3)⟩,
      ⟨none, some 6, (Op.assign (Operand.tmp 23))⟩]))
def ac125 : ACode :=
  .seq (.reg [⟨none, some 2, (Op.box 25 (Operand.tmp 0))⟩,
     ⟨none, some 4, (Op.assign (Operand.const (Value.int IntKind.i64 0)))⟩,
     ⟨none, some 5, (Op.assign (Operand.const (Value.bool false)))⟩])
  (.seq (.reg [⟨none, some 6, (Op.assign (Operand.const (Value.int IntKind.i64 0)))⟩])
   (.seq (.block 0 (.loop ac125_l0))
    (.seq (.draw [⟨⟨none, some 24, (Op.move (Operand.tmp 6))⟩, [], [], []⟩,
        ⟨⟨none, some 25, (Op.move (Operand.tmp 6))⟩, [], [], []⟩,
        ⟨⟨none, some 26, (Op.fieldAddr 25 (Operand.tmp 2) 0)⟩, [], [], []⟩,
        ⟨⟨none, some 27, (Op.load 23 (Operand.tmp 26))⟩, [2], [], []⟩,
        ⟨⟨none, some 28, (Op.call ⟨(Callee.builtin Builtin.len), #[(Operand.tmp 27)], #[23]⟩)⟩, [], [], []⟩,
        ⟨⟨none, some 29, (Op.binOp BinOp.lss 3 (Operand.tmp 25) (Operand.tmp 28) 3)⟩, [], [], []⟩,
        ⟨⟨none, some 30, (Op.move (Operand.tmp 29))⟩, [], [], []⟩,
        ⟨⟨some (30, true), some 31, (Op.fieldAddr 25 (Operand.tmp 2) 0)⟩, [], [], []⟩,
        ⟨⟨some (30, true), some 32, (Op.load 23 (Operand.tmp 31))⟩, [2], [], []⟩,
        ⟨⟨some (30, true), some 33, (Op.move (Operand.tmp 6))⟩, [], [2], []⟩,
        ⟨⟨some (30, true), some 34, (Op.indexAddr 23 (Operand.tmp 32) (Operand.tmp 33))⟩, [], [], []⟩,
        ⟨⟨some (30, true), some 35, (Op.fieldAddr 35 (Operand.tmp 34) 0)⟩, [], [], []⟩,
        ⟨⟨some (30, true), some 36, (Op.load 9 (Operand.tmp 35))⟩, [], [], []⟩,
        ⟨⟨some (30, true), some 37, (Op.move (Operand.tmp 1))⟩, [], [2], []⟩,
        ⟨⟨some (30, true), some 38, (Op.binOp BinOp.eql 9 (Operand.tmp 36) (Operand.tmp 37) 9)⟩, [], [], []⟩,
        ⟨⟨none, some 39, (Op.pick (Operand.tmp 30) (Operand.tmp 38) (Operand.const (Value.bool false)))⟩, [], [], []⟩,
        ⟨⟨none, some 4, (Op.assign (Operand.tmp 24))⟩, [], [2], []⟩,
        ⟨⟨none, some 5, (Op.assign (Operand.tmp 39))⟩, [], [], []⟩])
     (.ret))))
theorem vc125 {args : List AV} {L : List (Nat × Ob)} {R : AV → List (Nat × Ob) → Prop} (ha : args.length ≤ 40) (hL : (L.map (·.1)).Nodup)
    (h : ev Go.Proofs.Tryd.prog ⟨40, L.map (·.1)⟩ ac125 (retQ Go.Proofs.Tryd.prog [(ResultVar.tmp 4), (ResultVar.tmp 5)] R) ⟨argT args, hpOf L, Us.of (L.map (·.1))⟩) : ACall Go.Proofs.Tryd.prog 125 args L R :=
  acallA (by kernel_rfl) 40 [(4, [⟨0, [], [], [], [16, 17]⟩, ⟨1, [], [], [], [5, 6, 7, 8, 9, 10, 11, 12, 13, 14, 15, 16, 17]⟩, ⟨2, [], [], [], [3, 4, 5, 6, 7, 8, 9, 10, 11, 12, 13, 14, 15, 16, 17]⟩, ⟨3, [2], [], [], [4, 5, 6, 7, 8, 9, 10, 11, 12, 13, 14, 15, 16, 17]⟩, ⟨4, [], [], [], [5, 6, 7, 8, 9, 10, 11, 12, 13, 14, 15, 16, 17]⟩, ⟨5, [], [], [], [6, 7, 8, 9, 10, 11, 12, 13, 14, 15, 16, 17]⟩, ⟨6, [], [], [], [7, 8, 9, 10, 11, 12, 13, 14, 15, 16, 17]⟩, ⟨7, [], [], [], [8, 10, 11, 12, 14, 15, 17]⟩, ⟨8, [2], [], [], [10, 11, 12, 14, 15, 17]⟩, ⟨9, [], [2], [], [10, 11, 12, 14, 15, 17]⟩, ⟨10, [], [], [], [11, 12, 14, 15, 17]⟩, ⟨11, [], [], [], [12, 14, 15, 17]⟩, ⟨12, [], [], [], [14, 15, 17]⟩, ⟨13, [], [2], [], [14, 15, 17]⟩, ⟨14, [], [], [], [15, 17]⟩, ⟨15, [], [], [], [17]⟩, ⟨16, [], [2], [], [17]⟩, ⟨17, [], [], [], []⟩])] [(ResultVar.tmp 4), (ResultVar.tmp 5)] Go.Proofs.Tryd.func125 (by kernel_rfl) Go.Proofs.Tryd.ntmps125 (by kernel_rfl) ha hL (va_of_ev _ h)
theorem en125 : enters Go.Proofs.Tryd.prog 125 = true := by kernel_rfl
def ac63_l0 : ACode :=
  .seq (.seq (.reg [⟨none, some 8, (Op.move (Operand.tmp 5))⟩,
      ⟨none, some 9, (Op.fieldAddr 25 (Operand.tmp 2) 0)⟩,
      ⟨none, some 10, (Op.load 23 (Operand.tmp 9))⟩,
      ⟨none, some 11, (Op.call ⟨(Callee.builtin Builtin.len), #[(Operand.tmp 10)], #[23]⟩)⟩,
      ⟨none, some 12, (Op.binOp BinOp.leq 3 (Operand.tmp 8) (Operand.tmp 11) 3)⟩])
   (.cond (Operand.tmp 12) (.skip) (.exit 0)))
  (.seq (.block 1 (.seq (.seq (.reg [⟨none, some 15, (Op.fieldAddr 35 (Operand.tmp 3) 2)⟩,
         ⟨none, some 16, (Op.load 9 (Operand.tmp 15))⟩,
         ⟨none, some 17, (Op.binOp BinOp.eql 9 (Operand.tmp 16) (Operand.const (Value.string ⟨#[]⟩)) 9)⟩])
      (.cond (Operand.tmp 17) (.seq (.reg [⟨none, some 18, (Op.fieldAddr 35 (Operand.tmp 3) 1)⟩,
           ⟨none, some 19, (Op.load 3 (Operand.tmp 18))⟩,
           ⟨none, some 20, (Op.binOp BinOp.eql 3 (Operand.tmp 19) (Operand.const (Value.int IntKind.i64 1)) 3)⟩,
           ⟨none, some 4, (Op.assign (Operand.tmp 20))⟩])
        (.ret)) (.skip)))
     (.seq (.reg [⟨none, some 22, (Op.load 25 (Operand.tmp 2))⟩,
         ⟨none, some 23, (Op.fieldAddr 35 (Operand.tmp 3) 2)⟩,
         ⟨none, some 24, (Op.load 9 (Operand.tmp 23))⟩,
         ⟨none, some 25, (Op.call ⟨(Callee.value (Operand.func 125)), #[(Operand.tmp 22), (Operand.tmp 24)], #[25, 9]⟩)⟩,
         ⟨none, some 21, (Op.move (Operand.tmp 25))⟩,
         ⟨none, some 26, (Op.extract (Operand.tmp 21) 0)⟩,
         ⟨none, some 27, (Op.extract (Operand.tmp 21) 1)⟩,
         ⟨none, some 6, (Op.assign (Operand.tmp 26))⟩,
         ⟨none, some 7, (Op.assign (Operand.tmp 27))⟩])
      (.seq (.seq (.draw [⟨⟨none, some 28, (Op.move (Operand.tmp 7))⟩, [], [], []⟩,
           ⟨⟨none, some 29, (Op.unOp UnOp.not 4 (Operand.tmp 28))⟩, [], [], []⟩,
           ⟨⟨none, some 30, (Op.move (Operand.tmp 29))⟩, [], [], []⟩,
           ⟨⟨some (30, false), some 31, (Op.fieldAddr 25 (Operand.tmp 2) 0)⟩, [], [], []⟩,
           ⟨⟨some (30, false), some 32, (Op.load 23 (Operand.tmp 31))⟩, [2], [], []⟩,
           ⟨⟨some (30, false), some 33, (Op.move (Operand.tmp 6))⟩, [], [2], []⟩,
           ⟨⟨some (30, false), some 34, (Op.indexAddr 23 (Operand.tmp 32) (Operand.tmp 33))⟩, [], [], []⟩,
           ⟨⟨some (30, false), some 35, (Op.fieldAddr 35 (Operand.tmp 34) 1)⟩, [], [], []⟩,
           ⟨⟨some (30, false), some 36, (Op.load 3 (Operand.tmp 35))⟩, [], [], []⟩,
           ⟨⟨some (30, false), some 37, (Op.fieldAddr 35 (Operand.tmp 3) 1)⟩, [], [2], []⟩,
           ⟨⟨some (30, false), some 38, (Op.load 3 (Operand.tmp 37))⟩, [3], [2], []⟩,
           ⟨⟨some (30, false), some 39, (Op.binOp BinOp.eql 3 (Operand.tmp 36) (Operand.tmp 38) 3)⟩, [], [], []⟩,
           ⟨⟨none, some 40, (Op.pick (Operand.tmp 30) (Operand.const (Value.bool true)) (Operand.tmp 39))⟩, [], [], []⟩])
        (.cond (Operand.tmp 40) (.seq (.reg [⟨none, some 4, (Op.assign (Operand.const (Value.bool false)))⟩])
          (.ret)) (.skip)))
       (.reg [⟨none, some 41, (Op.fieldAddr 25 (Operand.tmp 2) 0)⟩,
          ⟨none, some 42, (Op.load 23 (Operand.tmp 41))⟩,
          ⟨none, some 43, (Op.move (Operand.tmp 6))⟩,
          ⟨none, some 44, (Op.indexAddr 23 (Operand.tmp 42) (Operand.tmp 43))⟩,
          ⟨none, some 45, (Op.load 35 (Operand.tmp 44))⟩,
          ⟨none, none, (Op.store 35 (Operand.tmp 3) (Operand.tmp 45))⟩])))))
   (.reg [⟨none, some 13, (Op.move (Operand.tmp 5))⟩,
      ⟨none, some 14, (Op.binOp BinOp.add 3 (Operand.tmp 13) (Operand.const (Value.int IntKind.i64 1)) 3)⟩,
      ⟨none, some 5, (Op.assign (Operand.tmp 14))⟩]))
def ac63 : ACode :=
  .seq (.reg [⟨none, some 2, (Op.box 25 (Operand.tmp 0))⟩,
     ⟨none, some 3, (Op.box 35 (Operand.tmp 1))⟩,
     ⟨none, some 4, (Op.assign (Operand.const (Value.bool false)))⟩])
  (.seq (.seq (.reg [⟨none, some 5, (Op.assign (Operand.const (Value.int IntKind.i64 0)))⟩])
    (.block 0 (.loop ac63_l0)))
   (.seq (.reg [⟨none, some 4, (Op.assign (Operand.const (Value.bool false)))⟩])
    (.ret)))
theorem vc63 {args : List AV} {L : List (Nat × Ob)} {R : AV → List (Nat × Ob) → Prop} (ha : args.length ≤ 46) (hL : (L.map (·.1)).Nodup)
    (h : ev Go.Proofs.Tryd.prog ⟨46, L.map (·.1)⟩ ac63 (retQ Go.Proofs.Tryd.prog [(ResultVar.tmp 4)] R) ⟨argT args, hpOf L, Us.of (L.map (·.1))⟩) : ACall Go.Proofs.Tryd.prog 63 args L R :=
  acallA (by kernel_rfl) 46 [(7, [⟨0, [], [], [], [1, 2, 3, 4, 5, 6, 7, 8, 9, 10, 11, 12]⟩, ⟨1, [], [], [], [2, 3, 4, 5, 6, 7, 8, 9, 10, 11, 12]⟩, ⟨2, [], [], [], [3, 4, 5, 6, 7, 8, 9, 10, 11, 12]⟩, ⟨3, [], [], [], [4, 6, 7, 8, 11, 12]⟩, ⟨4, [2], [], [], [6, 7, 8, 11, 12]⟩, ⟨5, [], [2], [], [6, 7, 8, 11, 12]⟩, ⟨6, [], [], [], [7, 8, 11, 12]⟩, ⟨7, [], [], [], [8, 11, 12]⟩, ⟨8, [], [], [], [11, 12]⟩, ⟨9, [], [2], [], [10, 11, 12]⟩, ⟨10, [3], [2], [], [11, 12]⟩, ⟨11, [], [], [], [12]⟩, ⟨12, [], [], [], []⟩])] [(ResultVar.tmp 4)] Go.Proofs.Tryd.func63 (by kernel_rfl) Go.Proofs.Tryd.ntmps63 (by kernel_rfl) ha hL (va_of_ev _ h)
theorem en63 : enters Go.Proofs.Tryd.prog 63 = true := by kernel_rfl
def ac18_l1 : ACode :=
  .seq (.seq (.reg [⟨none, some 53, (Op.move (Operand.tmp 5))⟩,
      ⟨none, some 54, (Op.binOp BinOp.lss 3 (Operand.tmp 53) (Operand.const (Value.int IntKind.i64 8)) 3)⟩])
   (.cond (Operand.tmp 54) (.skip) (.exit 2)))
  (.seq (.block 3 (.seq (.reg [⟨none, some 57, (Op.move (Operand.tmp 5))⟩,
        ⟨none, some 58, (Op.fieldAddr 35 (Operand.tmp 4) 3)⟩,
        ⟨none, some 59, (Op.indexAddr 33 (Operand.tmp 58) (Operand.tmp 57))⟩,
        ⟨none, some 60, (Op.load 9 (Operand.tmp 59))⟩,
        ⟨none, some 61, (Op.call ⟨(Callee.builtin Builtin.len), #[(Operand.tmp 60)], #[9]⟩)⟩,
        ⟨none, some 62, (Op.binOp BinOp.gtr 3 (Operand.tmp 61) (Operand.const (Value.int IntKind.i64 24)) 3)⟩])
     (.cond (Operand.tmp 62) (.seq (.reg [⟨none, some 2, (Op.assign (Operand.const (Value.bool false)))⟩])
       (.ret)) (.skip))))
   (.reg [⟨none, some 55, (Op.move (Operand.tmp 5))⟩,
      ⟨none, some 56, (Op.binOp BinOp.add 3 (Operand.tmp 55) (Operand.const (Value.int IntKind.i64 1)) 3)⟩,
      ⟨none, some 5, (Op.assign (Operand.tmp 56))⟩]))
def ac18_l0 : ACode :=
  .seq (.seq (.reg [⟨none, some 11, (Op.move (Operand.tmp 3))⟩,
      ⟨none, some 12, (Op.fieldAddr 25 (Operand.tmp 1) 0)⟩,
      ⟨none, some 13, (Op.load 23 (Operand.tmp 12))⟩,
      ⟨none, some 14, (Op.call ⟨(Callee.builtin Builtin.len), #[(Operand.tmp 13)], #[23]⟩)⟩,
      ⟨none, some 15, (Op.binOp BinOp.lss 3 (Operand.tmp 11) (Operand.tmp 14) 3)⟩])
   (.cond (Operand.tmp 15) (.skip) (.exit 0)))
  (.seq (.block 1 (.seq (.reg [⟨none, some 18, (Op.fieldAddr 25 (Operand.tmp 1) 0)⟩,
        ⟨none, some 19, (Op.load 23 (Operand.tmp 18))⟩,
        ⟨none, some 20, (Op.move (Operand.tmp 3))⟩,
        ⟨none, some 21, (Op.indexAddr 23 (Operand.tmp 19) (Operand.tmp 20))⟩,
        ⟨none, some 22, (Op.load 35 (Operand.tmp 21))⟩,
        ⟨none, some 4, (Op.alloc 35)⟩,
        ⟨none, none, (Op.store 35 (Operand.tmp 4) (Operand.tmp 22))⟩])
     (.seq (.seq (.draw [⟨⟨none, some 23, (Op.fieldAddr 35 (Operand.tmp 4) 0)⟩, [], [], []⟩,
          ⟨⟨none, some 24, (Op.load 9 (Operand.tmp 23))⟩, [4], [], []⟩,
          ⟨⟨none, some 25, (Op.call ⟨(Callee.value (Operand.func 62)), #[(Operand.tmp 24)], #[9]⟩)⟩, [], [], []⟩,
          ⟨⟨none, some 26, (Op.unOp UnOp.not 4 (Operand.tmp 25))⟩, [], [], []⟩,
          ⟨⟨none, some 27, (Op.move (Operand.tmp 26))⟩, [], [], []⟩,
          ⟨⟨some (27, false), some 28, (Op.move (Operand.tmp 3))⟩, [], [], []⟩,
          ⟨⟨some (27, false), some 29, (Op.binOp BinOp.gtr 3 (Operand.tmp 28) (Operand.const (Value.int IntKind.i64 0)) 3)⟩, [], [], []⟩,
          ⟨⟨some (27, false), some 30, (Op.move (Operand.tmp 29))⟩, [], [], []⟩,
          ⟨⟨some (30, true), some 31, (Op.fieldAddr 35 (Operand.tmp 4) 0)⟩, [], [], []⟩,
          ⟨⟨some (30, true), some 32, (Op.load 9 (Operand.tmp 31))⟩, [4], [], []⟩,
          ⟨⟨some (30, true), some 33, (Op.fieldAddr 25 (Operand.tmp 1) 0)⟩, [], [4], []⟩,
          ⟨⟨some (30, true), some 34, (Op.load 23 (Operand.tmp 33))⟩, [1], [4], []⟩,
          ⟨⟨some (30, true), some 35, (Op.move (Operand.tmp 3))⟩, [], [4, 1], []⟩,
          ⟨⟨some (30, true), some 36, (Op.binOp BinOp.sub 3 (Operand.tmp 35) (Operand.const (Value.int IntKind.i64 1)) 3)⟩, [], [4, 1], []⟩,
          ⟨⟨some (30, true), some 37, (Op.indexAddr 23 (Operand.tmp 34) (Operand.tmp 36))⟩, [], [4], []⟩,
          ⟨⟨some (30, true), some 38, (Op.fieldAddr 35 (Operand.tmp 37) 0)⟩, [], [4], []⟩,
          ⟨⟨some (30, true), some 39, (Op.load 9 (Operand.tmp 38))⟩, [], [4], []⟩,
          ⟨⟨some (30, true), some 40, (Op.binOp BinOp.leq 9 (Operand.tmp 32) (Operand.tmp 39) 9)⟩, [], [], []⟩,
          ⟨⟨some (27, false), some 41, (Op.pick (Operand.tmp 30) (Operand.tmp 40) (Operand.const (Value.bool false)))⟩, [], [], []⟩,
          ⟨⟨none, some 42, (Op.pick (Operand.tmp 27) (Operand.const (Value.bool true)) (Operand.tmp 41))⟩, [], [], []⟩,
          ⟨⟨none, some 43, (Op.move (Operand.tmp 42))⟩, [], [], []⟩,
          ⟨⟨some (43, false), some 44, (Op.fieldAddr 35 (Operand.tmp 4) 1)⟩, [], [], []⟩,
          ⟨⟨some (43, false), some 45, (Op.load 3 (Operand.tmp 44))⟩, [4], [], []⟩,
          ⟨⟨some (43, false), some 46, (Op.binOp BinOp.lss 3 (Operand.tmp 45) (Operand.const (Value.int IntKind.i64 1)) 3)⟩, [], [], []⟩,
          ⟨⟨none, some 47, (Op.pick (Operand.tmp 43) (Operand.const (Value.bool true)) (Operand.tmp 46))⟩, [], [], []⟩,
          ⟨⟨none, some 48, (Op.move (Operand.tmp 47))⟩, [], [], []⟩,
          ⟨⟨some (48, false), some 49, (Op.fieldAddr 35 (Operand.tmp 4) 1)⟩, [], [], []⟩,
          ⟨⟨some (48, false), some 50, (Op.load 3 (Operand.tmp 49))⟩, [4], [], []⟩,
          ⟨⟨some (48, false), some 51, (Op.binOp BinOp.gtr 3 (Operand.tmp 50) (Operand.const (Value.int IntKind.i64 2)) 3)⟩, [], [], []⟩,
          ⟨⟨none, some 52, (Op.pick (Operand.tmp 48) (Operand.const (Value.bool true)) (Operand.tmp 51))⟩, [], [], []⟩])
       (.cond (Operand.tmp 52) (.seq (.reg [⟨none, some 2, (Op.assign (Operand.const (Value.bool false)))⟩])
         (.ret)) (.skip)))
      (.seq (.reg [⟨none, some 5, (Op.assign (Operand.const (Value.int IntKind.i64 0)))⟩])
       (.block 2 (.loop ac18_l1))))))
   (.reg [⟨none, some 16, (Op.move (Operand.tmp 3))⟩,
      ⟨none, some 17, (Op.binOp BinOp.add 3 (Operand.tmp 16) (Operand.const (Value.int IntKind.i64 1)) 3)⟩,
      ⟨none, some 3, (Op.assign (Operand.tmp 17))⟩]))
def ac18_l2 : ACode :=
  .seq (.seq (.reg [⟨none, some 63, (Op.move (Operand.tmp 6))⟩,
      ⟨none, some 64, (Op.fieldAddr 25 (Operand.tmp 1) 0)⟩,
      ⟨none, some 65, (Op.load 23 (Operand.tmp 64))⟩,
      ⟨none, some 66, (Op.call ⟨(Callee.builtin Builtin.len), #[(Operand.tmp 65)], #[23]⟩)⟩,
      ⟨none, some 67, (Op.binOp BinOp.lss 3 (Operand.tmp 63) (Operand.tmp 66) 3)⟩])
   (.cond (Operand.tmp 67) (.skip) (.exit 4)))
  (.seq (.block 5 (.seq (.draw [⟨⟨none, some 70, (Op.load 25 (Operand.tmp 1))⟩, [1], [], []⟩,
        ⟨⟨none, some 71, (Op.fieldAddr 25 (Operand.tmp 1) 0)⟩, [], [1], []⟩,
        ⟨⟨none, some 72, (Op.load 23 (Operand.tmp 71))⟩, [1], [1], []⟩,
        ⟨⟨none, some 73, (Op.move (Operand.tmp 6))⟩, [], [1], []⟩,
        ⟨⟨none, some 74, (Op.indexAddr 23 (Operand.tmp 72) (Operand.tmp 73))⟩, [], [1], []⟩,
        ⟨⟨none, some 75, (Op.load 35 (Operand.tmp 74))⟩, [], [1], []⟩,
        ⟨⟨none, some 76, (Op.call ⟨(Callee.value (Operand.func 63)), #[(Operand.tmp 70), (Operand.tmp 75)], #[25, 35]⟩)⟩, [], [], []⟩,
        ⟨⟨none, some 77, (Op.unOp UnOp.not 4 (Operand.tmp 76))⟩, [], [], []⟩])
     (.cond (Operand.tmp 77) (.seq (.reg [⟨none, some 2, (Op.assign (Operand.const (Value.bool false)))⟩])
       (.ret)) (.skip))))
   (.reg [⟨none, some 68, (Op.move (Operand.tmp 6))⟩,
      ⟨none, some 69, (Op.binOp BinOp.add 3 (Operand.tmp 68) (Operand.const (Value.int IntKind.i64 1)) 3)⟩,
      ⟨none, some 6, (Op.assign (Operand.tmp 69))⟩]))
def ac18 : ACode :=
  .seq (.reg [⟨none, some 1, (Op.box 25 (Operand.tmp 0))⟩,
     ⟨none, some 2, (Op.assign (Operand.const (Value.bool false)))⟩])
  (.seq (.seq (.reg [⟨none, some 7, (Op.fieldAddr 25 (Operand.tmp 1) 0)⟩,
       ⟨none, some 8, (Op.load 23 (Operand.tmp 7))⟩,
       ⟨none, some 9, (Op.call ⟨(Callee.builtin Builtin.len), #[(Operand.tmp 8)], #[23]⟩)⟩,
       ⟨none, some 10, (Op.binOp BinOp.gtr 3 (Operand.tmp 9) (Operand.const (Value.int IntKind.i64 6)) 3)⟩])
    (.cond (Operand.tmp 10) (.seq (.reg [⟨none, some 2, (Op.assign (Operand.const (Value.bool false)))⟩])
      (.ret)) (.skip)))
   (.seq (.seq (.reg [⟨none, some 3, (Op.assign (Operand.const (Value.int IntKind.i64 0)))⟩])
     (.block 0 (.loop ac18_l0)))
    (.seq (.seq (.reg [⟨none, some 6, (Op.assign (Operand.const (Value.int IntKind.i64 0)))⟩])
      (.block 4 (.loop ac18_l2)))
     (.seq (.reg [⟨none, some 2, (Op.assign (Operand.const (Value.bool true)))⟩])
      (.ret)))))
theorem vc18 {args : List AV} {L : List (Nat × Ob)} {R : AV → List (Nat × Ob) → Prop} (ha : args.length ≤ 78) (hL : (L.map (·.1)).Nodup)
    (h : ev Go.Proofs.Tryd.prog ⟨78, L.map (·.1)⟩ ac18 (retQ Go.Proofs.Tryd.prog [(ResultVar.tmp 2)] R) ⟨argT args, hpOf L, Us.of (L.map (·.1))⟩) : ACall Go.Proofs.Tryd.prog 18 args L R :=
  acallA (by kernel_rfl) 78 [(7, [⟨0, [], [], [], [1, 2, 3, 4, 5, 6, 7, 8, 9, 10, 11, 12, 13, 14, 15, 16, 17, 18, 19, 20, 21, 22, 23, 24, 25, 26, 27, 28, 29]⟩, ⟨1, [4], [], [], [2, 3, 4, 5, 6, 7, 8, 9, 10, 11, 12, 13, 14, 15, 16, 17, 18, 19, 20, 21, 22, 23, 24, 25, 26, 27, 28, 29]⟩, ⟨2, [], [], [], [3, 4, 5, 6, 7, 8, 9, 10, 11, 12, 13, 14, 15, 16, 17, 18, 19, 20, 21, 22, 23, 24, 25, 26, 27, 28, 29]⟩, ⟨3, [], [], [], [4, 5, 6, 7, 8, 9, 10, 11, 12, 13, 14, 15, 16, 17, 18, 19, 20, 21, 22, 23, 24, 25, 26, 27, 28, 29]⟩, ⟨4, [], [], [], [5, 6, 7, 8, 9, 10, 11, 12, 13, 14, 15, 16, 17, 18, 19, 20, 21, 22, 23, 24, 25, 26, 27, 28, 29]⟩, ⟨5, [], [], [], [6, 7, 8, 9, 10, 11, 12, 13, 14, 15, 16, 17, 18, 19, 20, 21, 22, 23, 24, 25, 26, 27, 28, 29]⟩, ⟨6, [], [], [], [7, 8, 9, 10, 11, 12, 13, 14, 15, 16, 17, 18, 19, 20, 21, 22, 23, 24, 25, 26, 27, 28, 29]⟩, ⟨7, [], [], [], [8, 9, 10, 11, 12, 13, 14, 15, 16, 17, 18, 19, 20, 21, 22, 23, 24, 25, 26, 27, 28, 29]⟩, ⟨8, [], [], [], [9, 17, 18, 19, 20, 21, 22, 23, 24, 25, 26, 27, 28, 29]⟩, ⟨9, [4], [], [], [17, 18, 19, 20, 21, 22, 23, 24, 25, 26, 27, 28, 29]⟩, ⟨10, [], [4], [], [11, 14, 15, 16, 17, 18, 19, 20, 21, 22, 23, 24, 25, 26, 27, 28, 29]⟩, ⟨11, [1], [4], [], [14, 15, 16, 17, 18, 19, 20, 21, 22, 23, 24, 25, 26, 27, 28, 29]⟩, ⟨12, [], [4, 1], [], [13, 14, 15, 16, 17, 18, 19, 20, 21, 22, 23, 24, 25, 26, 27, 28, 29]⟩, ⟨13, [], [4, 1], [], [14, 15, 16, 17, 18, 19, 20, 21, 22, 23, 24, 25, 26, 27, 28, 29]⟩, ⟨14, [], [4], [], [15, 16, 17, 18, 19, 20, 21, 22, 23, 24, 25, 26, 27, 28, 29]⟩, ⟨15, [], [4], [], [16, 17, 18, 19, 20, 21, 22, 23, 24, 25, 26, 27, 28, 29]⟩, ⟨16, [], [4], [], [17, 18, 19, 20, 21, 22, 23, 24, 25, 26, 27, 28, 29]⟩, ⟨17, [], [], [], [18, 19, 20, 21, 22, 23, 24, 25, 26, 27, 28, 29]⟩, ⟨18, [], [], [], [19, 20, 21, 22, 23, 24, 25, 26, 27, 28, 29]⟩, ⟨19, [], [], [], [20, 21, 22, 23, 24, 25, 26, 27, 28, 29]⟩, ⟨20, [], [], [], [21, 22, 23, 24, 25, 26, 27, 28, 29]⟩, ⟨21, [], [], [], [22, 23, 24, 25, 26, 27, 28, 29]⟩, ⟨22, [4], [], [], [23, 24, 25, 26, 27, 28, 29]⟩, ⟨23, [], [], [], [24, 25, 26, 27, 28, 29]⟩, ⟨24, [], [], [], [25, 26, 27, 28, 29]⟩, ⟨25, [], [], [], [26, 27, 28, 29]⟩, ⟨26, [], [], [], [27, 28, 29]⟩, ⟨27, [4], [], [], [28, 29]⟩, ⟨28, [], [], [], [29]⟩, ⟨29, [], [], [], []⟩]), (17, [⟨0, [1], [], [], [6, 7]⟩, ⟨1, [], [1], [], [2, 4, 5, 6, 7]⟩, ⟨2, [1], [1], [], [4, 5, 6, 7]⟩, ⟨3, [], [1], [], [4, 5, 6, 7]⟩, ⟨4, [], [1], [], [5, 6, 7]⟩, ⟨5, [], [1], [], [6, 7]⟩, ⟨6, [], [], [], [7]⟩, ⟨7, [], [], [], []⟩])] [(ResultVar.tmp 2)] Go.Proofs.Tryd.func18 (by kernel_rfl) Go.Proofs.Tryd.ntmps18 (by kernel_rfl) ha hL (va_of_ev _ h)
theorem en18 : enters Go.Proofs.Tryd.prog 18 = true := by kernel_rfl
def ac61 : ACode :=
  .seq (.reg [⟨none, some 1, (Op.box 25 (Operand.tmp 0))⟩,
     ⟨none, some 2, (Op.alloc 25)⟩])
  (.seq (.reg [⟨none, some 3, (Op.buildSlice 23 0 #[])⟩,
      ⟨none, some 4, (Op.fieldAddr 25 (Operand.tmp 1) 0)⟩,
      ⟨none, some 5, (Op.load 23 (Operand.tmp 4))⟩,
      ⟨none, some 6, (Op.call ⟨(Callee.builtin Builtin.append), #[(Operand.tmp 3), (Operand.tmp 5)], #[23, 23]⟩)⟩,
      ⟨none, some 7, (Op.build 25 #[(0, (Operand.tmp 6))])⟩,
      ⟨none, none, (Op.store 25 (Operand.tmp 2) (Operand.tmp 7))⟩])
   (.ret))
theorem vc61 {args : List AV} {L : List (Nat × Ob)} {R : AV → List (Nat × Ob) → Prop} (ha : args.length ≤ 8) (hL : (L.map (·.1)).Nodup)
    (h : ev Go.Proofs.Tryd.prog ⟨8, L.map (·.1)⟩ ac61 (retQ Go.Proofs.Tryd.prog [(ResultVar.cell 2 25)] R) ⟨argT args, hpOf L, Us.of (L.map (·.1))⟩) : ACall Go.Proofs.Tryd.prog 61 args L R :=
  acallA (by kernel_rfl) 8 [] [(ResultVar.cell 2 25)] Go.Proofs.Tryd.func61 (by kernel_rfl) Go.Proofs.Tryd.ntmps61 (by kernel_rfl) ha hL (va_of_ev _ h)
theorem en61 : enters Go.Proofs.Tryd.prog 61 = true := by kernel_rfl
def ac124 : ACode :=
  .seq (.reg [⟨none, some 2, (Op.box 25 (Operand.tmp 0))⟩,
     ⟨none, some 3, (Op.box 35 (Operand.tmp 1))⟩,
     ⟨none, some 4, (Op.alloc 25)⟩,
     ⟨none, some 5, (Op.assign (Operand.const (Value.int IntKind.i64 0)))⟩])
  (.seq (.reg [⟨none, some 10, (Op.load 25 (Operand.tmp 2))⟩,
      ⟨none, some 11, (Op.fieldAddr 35 (Operand.tmp 3) 0)⟩,
      ⟨none, some 12, (Op.load 9 (Operand.tmp 11))⟩,
      ⟨none, some 13, (Op.call ⟨(Callee.value (Operand.func 125)), #[(Operand.tmp 10), (Operand.tmp 12)], #[25, 9]⟩)⟩,
      ⟨none, some 9, (Op.move (Operand.tmp 13))⟩,
      ⟨none, some 14, (Op.extract (Operand.tmp 9) 0)⟩,
      ⟨none, some 15, (Op.extract (Operand.tmp 9) 1)⟩,
      ⟨none, some 6, (Op.assign (Operand.tmp 14))⟩,
      ⟨none, some 7, (Op.assign (Operand.tmp 15))⟩])
   (.seq (.block 0 (.seq (.reg [⟨none, some 17, (Op.fieldAddr 35 (Operand.tmp 3) 0)⟩,
         ⟨none, some 18, (Op.load 9 (Operand.tmp 17))⟩,
         ⟨none, some 19, (Op.call ⟨(Callee.value (Operand.func 62)), #[(Operand.tmp 18)], #[9]⟩)⟩,
         ⟨none, some 20, (Op.unOp UnOp.not 4 (Operand.tmp 19))⟩,
         ⟨none, some 16, (Op.assign (Operand.tmp 20))⟩])
      (.cond (Operand.tmp 16) (.seq (.reg [⟨none, some 21, (Op.load 25 (Operand.tmp 2))⟩,
           ⟨none, none, (Op.store 25 (Operand.tmp 4) (Operand.tmp 21))⟩,
           ⟨none, some 5, (Op.assign (Operand.const (Value.int IntKind.i64 5)))⟩])
        (.ret)) (.seq (.reg [⟨none, some 23, (Op.move (Operand.tmp 7))⟩,
           ⟨none, some 22, (Op.assign (Operand.tmp 23))⟩])
        (.cond (Operand.tmp 22) (.seq (.reg [⟨none, some 24, (Op.load 25 (Operand.tmp 2))⟩,
             ⟨none, none, (Op.store 25 (Operand.tmp 4) (Operand.tmp 24))⟩,
             ⟨none, some 5, (Op.assign (Operand.const (Value.int IntKind.i64 2)))⟩])
          (.ret)) (.seq (.reg [⟨none, some 26, (Op.fieldAddr 25 (Operand.tmp 2) 0)⟩,
             ⟨none, some 27, (Op.load 23 (Operand.tmp 26))⟩,
             ⟨none, some 28, (Op.call ⟨(Callee.builtin Builtin.len), #[(Operand.tmp 27)], #[23]⟩)⟩,
             ⟨none, some 29, (Op.binOp BinOp.eql 3 (Operand.tmp 28) (Operand.const (Value.int IntKind.i64 6)) 3)⟩,
             ⟨none, some 25, (Op.assign (Operand.tmp 29))⟩])
          (.cond (Operand.tmp 25) (.seq (.reg [⟨none, some 30, (Op.load 25 (Operand.tmp 2))⟩,
               ⟨none, none, (Op.store 25 (Operand.tmp 4) (Operand.tmp 30))⟩,
               ⟨none, some 5, (Op.assign (Operand.const (Value.int IntKind.i64 4)))⟩])
            (.ret)) (.skip))))))))
    (.seq (.reg [⟨none, some 31, (Op.buildSlice 23 0 #[])⟩,
        ⟨none, some 32, (Op.fieldAddr 25 (Operand.tmp 2) 0)⟩,
        ⟨none, some 33, (Op.load 23 (Operand.tmp 32))⟩,
        ⟨none, some 34, (Op.move (Operand.tmp 6))⟩,
        ⟨none, some 35, (Op.slice 23 (Operand.tmp 33) (some (Operand.tmp 34)) none none)⟩,
        ⟨none, some 36, (Op.call ⟨(Callee.builtin Builtin.append), #[(Operand.tmp 31), (Operand.tmp 35)], #[23, 23]⟩)⟩,
        ⟨none, some 8, (Op.assign (Operand.tmp 36))⟩])
     (.seq (.draw [⟨⟨none, some 37, (Op.fieldAddr 25 (Operand.tmp 2) 0)⟩, [], [], []⟩,
         ⟨⟨none, some 38, (Op.load 23 (Operand.tmp 37))⟩, [2], [], []⟩,
         ⟨⟨none, some 39, (Op.move (Operand.tmp 6))⟩, [], [2], []⟩,
         ⟨⟨none, some 40, (Op.slice 23 (Operand.tmp 38) none (some (Operand.tmp 39)) none)⟩, [1000], [], []⟩,
         ⟨⟨none, some 41, (Op.load 35 (Operand.tmp 3))⟩, [3], [2, 1000], []⟩,
         ⟨⟨none, some 44, (Op.move (Operand.tmp 8))⟩, [], [2, 1000, 3], []⟩,
         ⟨⟨none, some 42, (Op.buildSlice 23 1 #[(0, (Operand.tmp 41))])⟩, [], [2, 1000], []⟩,
         ⟨⟨none, some 43, (Op.call ⟨(Callee.builtin Builtin.append), #[(Operand.tmp 40), (Operand.tmp 42)], #[23, 23]⟩)⟩, [], [], []⟩,
         ⟨⟨none, some 45, (Op.call ⟨(Callee.builtin Builtin.append), #[(Operand.tmp 43), (Operand.tmp 44)], #[23, 23]⟩)⟩, [], [], []⟩,
         ⟨⟨none, some 46, (Op.fieldAddr 25 (Operand.tmp 2) 0)⟩, [], [], []⟩,
         ⟨⟨none, none, (Op.store 23 (Operand.tmp 46) (Operand.tmp 45))⟩, [], [], []⟩])
      (.seq (.reg [⟨none, some 47, (Op.load 25 (Operand.tmp 2))⟩,
          ⟨none, none, (Op.store 25 (Operand.tmp 4) (Operand.tmp 47))⟩,
          ⟨none, some 5, (Op.assign (Operand.const (Value.int IntKind.i64 0)))⟩])
       (.ret))))))
theorem vc124 {args : List AV} {L : List (Nat × Ob)} {R : AV → List (Nat × Ob) → Prop} (ha : args.length ≤ 48) (hL : (L.map (·.1)).Nodup)
    (h : ev Go.Proofs.Tryd.prog ⟨48, L.map (·.1)⟩ ac124 (retQ Go.Proofs.Tryd.prog [(ResultVar.cell 4 25), (ResultVar.tmp 5)] R) ⟨argT args, hpOf L, Us.of (L.map (·.1))⟩) : ACall Go.Proofs.Tryd.prog 124 args L R :=
  acallA (by kernel_rfl) 48 [(9, [⟨0, [], [], [], [1, 3, 6, 8, 9, 10]⟩, ⟨1, [2], [], [], [3, 6, 8, 9, 10]⟩, ⟨2, [], [2], [], [3, 6, 8, 9, 10]⟩, ⟨3, [1000], [], [], [6, 8, 9, 10]⟩, ⟨4, [3], [2, 1000], [], [5, 6, 8, 9, 10]⟩, ⟨7, [], [2, 1000, 3], [], [8, 9, 10]⟩, ⟨5, [], [2, 1000], [], [6, 8, 9, 10]⟩, ⟨6, [], [], [], [8, 9, 10]⟩, ⟨8, [], [], [], [9, 10]⟩, ⟨9, [], [], [], [10]⟩, ⟨10, [], [], [], []⟩])] [(ResultVar.cell 4 25), (ResultVar.tmp 5)] Go.Proofs.Tryd.func124 (by kernel_rfl) Go.Proofs.Tryd.ntmps124 (by kernel_rfl) ha hL (va_of_ev _ h)
theorem en124 : enters Go.Proofs.Tryd.prog 124 = true := by kernel_rfl
def ac126_l0 : ACode :=
  .seq (.seq (.reg [⟨none, some 7, (Op.move (Operand.tmp 6))⟩,
      ⟨none, some 8, (Op.fieldAddr 25 (Operand.tmp 2) 0)⟩,
      ⟨none, some 9, (Op.load 23 (Operand.tmp 8))⟩,
      ⟨none, some 10, (Op.call ⟨(Callee.builtin Builtin.len), #[(Operand.tmp 9)], #[23]⟩)⟩,
      ⟨none, some 11, (Op.binOp BinOp.lss 3 (Operand.tmp 7) (Operand.tmp 10) 3)⟩])
   (.cond (Operand.tmp 11) (.skip) (.exit 0)))
  (.seq (.block 1 (.seq (.draw [⟨⟨none, some 14, (Op.fieldAddr 25 (Operand.tmp 2) 0)⟩, [], [], []⟩,
        ⟨⟨none, some 15, (Op.load 23 (Operand.tmp 14))⟩, [2, 1000], [], []⟩,
        ⟨⟨none, some 16, (Op.move (Operand.tmp 6))⟩, [], [2, 1000], []⟩,
        ⟨⟨none, some 17, (Op.indexAddr 23 (Operand.tmp 15) (Operand.tmp 16))⟩, [1000], [], []⟩,
        ⟨⟨none, some 18, (Op.fieldAddr 35 (Operand.tmp 17) 2)⟩, [], [], []⟩,
        ⟨⟨none, some 19, (Op.load 9 (Operand.tmp 18))⟩, [1000], [], []⟩,
        ⟨⟨none, some 20, (Op.fieldAddr 25 (Operand.tmp 2) 0)⟩, [], [2, 1000], []⟩,
        ⟨⟨none, some 21, (Op.load 23 (Operand.tmp 20))⟩, [2, 1000], [2, 1000], []⟩,
        ⟨⟨none, some 22, (Op.move (Operand.tmp 1))⟩, [], [2, 1000], []⟩,
        ⟨⟨none, some 23, (Op.indexAddr 23 (Operand.tmp 21) (Operand.tmp 22))⟩, [1000], [2, 1000], []⟩,
        ⟨⟨none, some 24, (Op.fieldAddr 35 (Operand.tmp 23) 0)⟩, [], [2, 1000], []⟩,
        ⟨⟨none, some 25, (Op.load 9 (Operand.tmp 24))⟩, [1000], [2, 1000], []⟩,
        ⟨⟨none, some 26, (Op.binOp BinOp.eql 9 (Operand.tmp 19) (Operand.tmp 25) 9)⟩, [], [], []⟩])
     (.cond (Operand.tmp 26) (.seq (.reg [⟨none, some 27, (Op.load 25 (Operand.tmp 2))⟩,
          ⟨none, none, (Op.store 25 (Operand.tmp 4) (Operand.tmp 27))⟩,
          ⟨none, some 5, (Op.assign (Operand.const (Value.int IntKind.i64 6)))⟩])
       (.ret)) (.skip))))
   (.reg [⟨none, some 12, (Op.move (Operand.tmp 6))⟩,
      ⟨none, some 13, (Op.binOp BinOp.add 3 (Operand.tmp 12) (Operand.const (Value.int IntKind.i64 1)) 3)⟩,
      ⟨none, some 6, (Op.assign (Operand.tmp 13))⟩]))
def ac126 : ACode :=
  .seq (.reg [⟨none, some 2, (Op.box 25 (Operand.tmp 0))⟩,
     ⟨none, some 4, (Op.alloc 25)⟩,
     ⟨none, some 5, (Op.assign (Operand.const (Value.int IntKind.i64 0)))⟩])
  (.seq (.seq (.reg [⟨none, some 6, (Op.assign (Operand.const (Value.int IntKind.i64 0)))⟩])
    (.block 0 (.loop ac126_l0)))
   (.seq (.draw [⟨⟨none, some 29, (Op.fieldAddr 25 (Operand.tmp 2) 0)⟩, [], [], []⟩,
       ⟨⟨none, some 30, (Op.load 23 (Operand.tmp 29))⟩, [2], [], []⟩,
       ⟨⟨none, some 31, (Op.move (Operand.tmp 1))⟩, [], [2], []⟩,
       ⟨⟨none, some 32, (Op.slice 23 (Operand.tmp 30) none (some (Operand.tmp 31)) none)⟩, [1000], [], []⟩,
       ⟨⟨none, some 34, (Op.fieldAddr 25 (Operand.tmp 2) 0)⟩, [], [2, 1000], []⟩,
       ⟨⟨none, some 35, (Op.load 23 (Operand.tmp 34))⟩, [2], [2, 1000], []⟩,
       ⟨⟨none, some 36, (Op.move (Operand.tmp 1))⟩, [], [2, 1000], []⟩,
       ⟨⟨none, some 37, (Op.binOp BinOp.add 3 (Operand.tmp 36) (Operand.const (Value.int IntKind.i64 1)) 3)⟩, [], [2, 1000], []⟩,
       ⟨⟨none, some 38, (Op.slice 23 (Operand.tmp 35) (some (Operand.tmp 37)) none none)⟩, [1000], [2, 1000], []⟩,
       ⟨⟨none, some 28, (Op.buildSlice 23 0 #[])⟩, [], [2, 1000], []⟩,
       ⟨⟨none, some 33, (Op.call ⟨(Callee.builtin Builtin.append), #[(Operand.tmp 28), (Operand.tmp 32)], #[23, 23]⟩)⟩, [], [2, 1000], []⟩,
       ⟨⟨none, some 39, (Op.call ⟨(Callee.builtin Builtin.append), #[(Operand.tmp 33), (Operand.tmp 38)], #[23, 23]⟩)⟩, [], [], []⟩,
       ⟨⟨none, some 40, (Op.fieldAddr 25 (Operand.tmp 2) 0)⟩, [], [], []⟩,
       ⟨⟨none, none, (Op.store 23 (Operand.tmp 40) (Operand.tmp 39))⟩, [], [], []⟩])
    (.seq (.reg [⟨none, some 41, (Op.load 25 (Operand.tmp 2))⟩,
        ⟨none, none, (Op.store 25 (Operand.tmp 4) (Operand.tmp 41))⟩,
        ⟨none, some 5, (Op.assign (Operand.const (Value.int IntKind.i64 0)))⟩])
     (.ret))))
theorem vc126 {args : List AV} {L : List (Nat × Ob)} {R : AV → List (Nat × Ob) → Prop} (ha : args.length ≤ 42) (hL : (L.map (·.1)).Nodup)
    (h : ev Go.Proofs.Tryd.prog ⟨42, L.map (·.1)⟩ ac126 (retQ Go.Proofs.Tryd.prog [(ResultVar.cell 4 25), (ResultVar.tmp 5)] R) ⟨argT args, hpOf L, Us.of (L.map (·.1))⟩) : ACall Go.Proofs.Tryd.prog 126 args L R :=
  acallA (by kernel_rfl) 42 [(4, [⟨0, [], [], [], [1, 3, 4, 5, 12]⟩, ⟨1, [2, 1000], [], [], [3, 4, 5, 12]⟩, ⟨2, [], [2, 1000], [], [3, 4, 5, 12]⟩, ⟨3, [1000], [], [], [4, 5, 12]⟩, ⟨4, [], [], [], [5, 12]⟩, ⟨5, [1000], [], [], [12]⟩, ⟨6, [], [2, 1000], [], [7, 9, 10, 11, 12]⟩, ⟨7, [2, 1000], [2, 1000], [], [9, 10, 11, 12]⟩, ⟨8, [], [2, 1000], [], [9, 10, 11, 12]⟩, ⟨9, [1000], [2, 1000], [], [10, 11, 12]⟩, ⟨10, [], [2, 1000], [], [11, 12]⟩, ⟨11, [1000], [2, 1000], [], [12]⟩, ⟨12, [], [], [], []⟩]), (6, [⟨1, [], [], [], [2, 4, 5, 11, 12, 13]⟩, ⟨2, [2], [], [], [4, 5, 11, 12, 13]⟩, ⟨3, [], [2], [], [4, 5, 11, 12, 13]⟩, ⟨4, [1000], [], [], [5, 11, 12, 13]⟩, ⟨6, [], [2, 1000], [], [7, 10, 11, 12, 13]⟩, ⟨7, [2], [2, 1000], [], [10, 11, 12, 13]⟩, ⟨8, [], [2, 1000], [], [9, 10, 11, 12, 13]⟩, ⟨9, [], [2, 1000], [], [10, 11, 12, 13]⟩, ⟨10, [1000], [2, 1000], [], [11, 12, 13]⟩, ⟨0, [], [2, 1000], [], [5, 11, 12, 13]⟩, ⟨5, [], [2, 1000], [], [11, 12, 13]⟩, ⟨11, [], [], [], [12, 13]⟩, ⟨12, [], [], [], [13]⟩, ⟨13, [], [], [], []⟩])] [(ResultVar.cell 4 25), (ResultVar.tmp 5)] Go.Proofs.Tryd.func126 (by kernel_rfl) Go.Proofs.Tryd.ntmps126 (by kernel_rfl) ha hL (va_of_ev _ h)
theorem en126 : enters Go.Proofs.Tryd.prog 126 = true := by kernel_rfl
def ac127 : ACode :=
  .seq (.reg [⟨none, some 3, (Op.box 25 (Operand.tmp 0))⟩,
     ⟨none, some 5, (Op.box 27 (Operand.tmp 2))⟩,
     ⟨none, some 6, (Op.alloc 25)⟩,
     ⟨none, some 7, (Op.assign (Operand.const (Value.int IntKind.i64 0)))⟩])
  (.seq (.seq (.reg [⟨none, some 8, (Op.fieldAddr 27 (Operand.tmp 5) 3)⟩,
       ⟨none, some 9, (Op.load 3 (Operand.tmp 8))⟩,
       ⟨none, some 10, (Op.binOp BinOp.lss 3 (Operand.tmp 9) (Operand.const (Value.int IntKind.i64 0)) 3)⟩,
       ⟨none, some 11, (Op.move (Operand.tmp 10))⟩,
       ⟨some (11, false), some 12, (Op.fieldAddr 27 (Operand.tmp 5) 3)⟩,
       ⟨some (11, false), some 13, (Op.load 3 (Operand.tmp 12))⟩,
       ⟨some (11, false), some 14, (Op.binOp BinOp.geq 3 (Operand.tmp 13) (Operand.const (Value.int IntKind.i64 8)) 3)⟩,
       ⟨none, some 15, (Op.pick (Operand.tmp 11) (Operand.const (Value.bool true)) (Operand.tmp 14))⟩,
       ⟨none, some 16, (Op.move (Operand.tmp 15))⟩,
       ⟨some (16, false), some 17, (Op.fieldAddr 27 (Operand.tmp 5) 4)⟩,
       ⟨some (16, false), some 18, (Op.load 9 (Operand.tmp 17))⟩,
       ⟨some (16, false), some 19, (Op.call ⟨(Callee.builtin Builtin.len), #[(Operand.tmp 18)], #[9]⟩)⟩,
       ⟨some (16, false), some 20, (Op.binOp BinOp.gtr 3 (Operand.tmp 19) (Operand.const (Value.int IntKind.i64 24)) 3)⟩,
       ⟨none, some 21, (Op.pick (Operand.tmp 16) (Operand.const (Value.bool true)) (Operand.tmp 20))⟩])
    (.cond (Operand.tmp 21) (.seq (.reg [⟨none, some 22, (Op.load 25 (Operand.tmp 3))⟩,
         ⟨none, none, (Op.store 25 (Operand.tmp 6) (Operand.tmp 22))⟩,
         ⟨none, some 7, (Op.assign (Operand.const (Value.int IntKind.i64 5)))⟩])
      (.ret)) (.skip)))
   (.seq (.seq (.reg [⟨none, some 23, (Op.fieldAddr 25 (Operand.tmp 3) 0)⟩,
        ⟨none, some 24, (Op.load 23 (Operand.tmp 23))⟩,
        ⟨none, some 25, (Op.move (Operand.tmp 1))⟩,
        ⟨none, some 26, (Op.indexAddr 23 (Operand.tmp 24) (Operand.tmp 25))⟩,
        ⟨none, some 27, (Op.fieldAddr 35 (Operand.tmp 26) 1)⟩,
        ⟨none, some 28, (Op.load 3 (Operand.tmp 27))⟩,
        ⟨none, some 29, (Op.binOp BinOp.neq 3 (Operand.tmp 28) (Operand.const (Value.int IntKind.i64 1)) 3)⟩])
     (.cond (Operand.tmp 29) (.seq (.reg [⟨none, some 30, (Op.load 25 (Operand.tmp 3))⟩,
          ⟨none, none, (Op.store 25 (Operand.tmp 6) (Operand.tmp 30))⟩,
          ⟨none, some 7, (Op.assign (Operand.const (Value.int IntKind.i64 3)))⟩])
       (.ret)) (.skip)))
    (.seq (.draw [⟨⟨none, some 31, (Op.fieldAddr 25 (Operand.tmp 3) 0)⟩, [], [], []⟩,
        ⟨⟨none, some 32, (Op.load 23 (Operand.tmp 31))⟩, [3], [], []⟩,
        ⟨⟨none, some 33, (Op.move (Operand.tmp 1))⟩, [], [3], []⟩,
        ⟨⟨none, some 34, (Op.fieldAddr 27 (Operand.tmp 5) 3)⟩, [], [3], []⟩,
        ⟨⟨none, some 35, (Op.load 3 (Operand.tmp 34))⟩, [5], [3], []⟩,
        ⟨⟨none, some 36, (Op.fieldAddr 27 (Operand.tmp 5) 4)⟩, [], [3, 5], []⟩,
        ⟨⟨none, some 37, (Op.load 9 (Operand.tmp 36))⟩, [5], [3, 5], []⟩,
        ⟨⟨none, some 38, (Op.indexAddr 23 (Operand.tmp 32) (Operand.tmp 33))⟩, [1000], [5], []⟩,
        ⟨⟨none, some 39, (Op.fieldAddr 35 (Operand.tmp 38) 3)⟩, [], [5], []⟩,
        ⟨⟨none, some 40, (Op.indexAddr 33 (Operand.tmp 39) (Operand.tmp 35))⟩, [], [], []⟩,
        ⟨⟨none, none, (Op.store 9 (Operand.tmp 40) (Operand.tmp 37))⟩, [], [], []⟩])
     (.seq (.reg [⟨none, some 41, (Op.load 25 (Operand.tmp 3))⟩,
         ⟨none, none, (Op.store 25 (Operand.tmp 6) (Operand.tmp 41))⟩,
         ⟨none, some 7, (Op.assign (Operand.const (Value.int IntKind.i64 0)))⟩])
      (.ret)))))
theorem vc127 {args : List AV} {L : List (Nat × Ob)} {R : AV → List (Nat × Ob) → Prop} (ha : args.length ≤ 42) (hL : (L.map (·.1)).Nodup)
    (h : ev Go.Proofs.Tryd.prog ⟨42, L.map (·.1)⟩ ac127 (retQ Go.Proofs.Tryd.prog [(ResultVar.cell 6 25), (ResultVar.tmp 7)] R) ⟨argT args, hpOf L, Us.of (L.map (·.1))⟩) : ACall Go.Proofs.Tryd.prog 127 args L R :=
  acallA (by kernel_rfl) 42 [(5, [⟨0, [], [], [], [1, 7, 8, 9, 10]⟩, ⟨1, [3], [], [], [7, 8, 9, 10]⟩, ⟨2, [], [3], [], [7, 8, 9, 10]⟩, ⟨3, [], [3], [], [4, 9, 10]⟩, ⟨4, [5], [3], [], [9, 10]⟩, ⟨5, [], [3, 5], [], [6, 9, 10]⟩, ⟨6, [5], [3, 5], [], [9, 10]⟩, ⟨7, [1000], [5], [], [8, 9, 10]⟩, ⟨8, [], [5], [], [9, 10]⟩, ⟨9, [], [], [], [10]⟩, ⟨10, [], [], [], []⟩])] [(ResultVar.cell 6 25), (ResultVar.tmp 7)] Go.Proofs.Tryd.func127 (by kernel_rfl) Go.Proofs.Tryd.ntmps127 (by kernel_rfl) ha hL (va_of_ev _ h)
theorem en127 : enters Go.Proofs.Tryd.prog 127 = true := by kernel_rfl
def ac128 : ACode :=
  .seq (.reg [⟨none, some 3, (Op.box 25 (Operand.tmp 0))⟩,
     ⟨none, some 6, (Op.alloc 25)⟩,
     ⟨none, some 7, (Op.assign (Operand.const (Value.int IntKind.i64 0)))⟩])
  (.seq (.reg [⟨none, some 11, (Op.load 25 (Operand.tmp 3))⟩,
      ⟨none, some 12, (Op.move (Operand.tmp 2))⟩,
      ⟨none, some 13, (Op.call ⟨(Callee.value (Operand.func 125)), #[(Operand.tmp 11), (Operand.tmp 12)], #[25, 9]⟩)⟩,
      ⟨none, some 10, (Op.move (Operand.tmp 13))⟩,
      ⟨none, some 14, (Op.extract (Operand.tmp 10) 0)⟩,
      ⟨none, some 15, (Op.extract (Operand.tmp 10) 1)⟩,
      ⟨none, some 8, (Op.assign (Operand.tmp 14))⟩,
      ⟨none, some 9, (Op.assign (Operand.tmp 15))⟩])
   (.seq (.block 0 (.seq (.reg [⟨none, some 17, (Op.move (Operand.tmp 9))⟩,
         ⟨none, some 18, (Op.unOp UnOp.not 4 (Operand.tmp 17))⟩,
         ⟨none, some 16, (Op.assign (Operand.tmp 18))⟩])
      (.cond (Operand.tmp 16) (.seq (.reg [⟨none, some 19, (Op.load 25 (Operand.tmp 3))⟩,
           ⟨none, none, (Op.store 25 (Operand.tmp 6) (Operand.tmp 19))⟩,
           ⟨none, some 7, (Op.assign (Operand.const (Value.int IntKind.i64 1)))⟩])
        (.ret)) (.seq (.draw [⟨⟨none, some 21, (Op.fieldAddr 25 (Operand.tmp 3) 0)⟩, [], [], []⟩,
           ⟨⟨none, some 22, (Op.load 23 (Operand.tmp 21))⟩, [3, 1000], [], []⟩,
           ⟨⟨none, some 23, (Op.move (Operand.tmp 1))⟩, [], [3, 1000], []⟩,
           ⟨⟨none, some 24, (Op.indexAddr 23 (Operand.tmp 22) (Operand.tmp 23))⟩, [1000], [], []⟩,
           ⟨⟨none, some 25, (Op.fieldAddr 35 (Operand.tmp 24) 1)⟩, [], [], []⟩,
           ⟨⟨none, some 26, (Op.load 3 (Operand.tmp 25))⟩, [1000], [], []⟩,
           ⟨⟨none, some 27, (Op.binOp BinOp.neq 3 (Operand.tmp 26) (Operand.const (Value.int IntKind.i64 1)) 3)⟩, [], [], []⟩,
           ⟨⟨none, some 28, (Op.move (Operand.tmp 27))⟩, [], [], []⟩,
           ⟨⟨some (28, false), some 29, (Op.fieldAddr 25 (Operand.tmp 3) 0)⟩, [], [], []⟩,
           ⟨⟨some (28, false), some 30, (Op.load 23 (Operand.tmp 29))⟩, [3, 1000], [], []⟩,
           ⟨⟨some (28, false), some 31, (Op.move (Operand.tmp 8))⟩, [], [3, 1000], []⟩,
           ⟨⟨some (28, false), some 32, (Op.indexAddr 23 (Operand.tmp 30) (Operand.tmp 31))⟩, [1000], [], []⟩,
           ⟨⟨some (28, false), some 33, (Op.fieldAddr 35 (Operand.tmp 32) 1)⟩, [], [], []⟩,
           ⟨⟨some (28, false), some 34, (Op.load 3 (Operand.tmp 33))⟩, [1000], [], []⟩,
           ⟨⟨some (28, false), some 35, (Op.binOp BinOp.neq 3 (Operand.tmp 34) (Operand.const (Value.int IntKind.i64 2)) 3)⟩, [], [], []⟩,
           ⟨⟨none, some 36, (Op.pick (Operand.tmp 28) (Operand.const (Value.bool true)) (Operand.tmp 35))⟩, [], [], []⟩,
           ⟨⟨none, some 37, (Op.move (Operand.tmp 36))⟩, [], [], []⟩,
           ⟨⟨some (37, false), some 38, (Op.fieldAddr 25 (Operand.tmp 3) 0)⟩, [], [], []⟩,
           ⟨⟨some (37, false), some 39, (Op.load 23 (Operand.tmp 38))⟩, [3, 1000], [], []⟩,
           ⟨⟨some (37, false), some 40, (Op.move (Operand.tmp 8))⟩, [], [3, 1000], []⟩,
           ⟨⟨some (37, false), some 41, (Op.indexAddr 23 (Operand.tmp 39) (Operand.tmp 40))⟩, [1000], [], []⟩,
           ⟨⟨some (37, false), some 42, (Op.fieldAddr 35 (Operand.tmp 41) 2)⟩, [], [], []⟩,
           ⟨⟨some (37, false), some 43, (Op.load 9 (Operand.tmp 42))⟩, [1000], [], []⟩,
           ⟨⟨some (37, false), some 44, (Op.fieldAddr 25 (Operand.tmp 3) 0)⟩, [], [3, 1000], []⟩,
           ⟨⟨some (37, false), some 45, (Op.load 23 (Operand.tmp 44))⟩, [3, 1000], [3, 1000], []⟩,
           ⟨⟨some (37, false), some 46, (Op.move (Operand.tmp 1))⟩, [], [3, 1000], []⟩,
           ⟨⟨some (37, false), some 47, (Op.indexAddr 23 (Operand.tmp 45) (Operand.tmp 46))⟩, [1000], [3, 1000], []⟩,
           ⟨⟨some (37, false), some 48, (Op.fieldAddr 35 (Operand.tmp 47) 0)⟩, [], [3, 1000], []⟩,
           ⟨⟨some (37, false), some 49, (Op.load 9 (Operand.tmp 48))⟩, [1000], [3, 1000], []⟩,
           ⟨⟨some (37, false), some 50, (Op.binOp BinOp.neq 9 (Operand.tmp 43) (Operand.tmp 49) 9)⟩, [], [], []⟩,
           ⟨⟨none, some 51, (Op.pick (Operand.tmp 37) (Operand.const (Value.bool true)) (Operand.tmp 50))⟩, [], [], []⟩,
           ⟨⟨none, some 20, (Op.assign (Operand.tmp 51))⟩, [], [], []⟩])
        (.cond (Operand.tmp 20) (.seq (.reg [⟨none, some 52, (Op.load 25 (Operand.tmp 3))⟩,
             ⟨none, none, (Op.store 25 (Operand.tmp 6) (Operand.tmp 52))⟩,
             ⟨none, some 7, (Op.assign (Operand.const (Value.int IntKind.i64 3)))⟩])
          (.ret)) (.skip))))))
    (.seq (.draw [⟨⟨none, some 53, (Op.fieldAddr 25 (Operand.tmp 3) 0)⟩, [], [], []⟩,
        ⟨⟨none, some 54, (Op.load 23 (Operand.tmp 53))⟩, [3, 1000], [], []⟩,
        ⟨⟨none, some 55, (Op.move (Operand.tmp 1))⟩, [], [3, 1000], []⟩,
        ⟨⟨none, some 56, (Op.fieldAddr 25 (Operand.tmp 3) 0)⟩, [], [3, 1000], []⟩,
        ⟨⟨none, some 57, (Op.load 23 (Operand.tmp 56))⟩, [3, 1000], [3, 1000], []⟩,
        ⟨⟨none, some 58, (Op.move (Operand.tmp 8))⟩, [], [3, 1000], []⟩,
        ⟨⟨none, some 59, (Op.indexAddr 23 (Operand.tmp 57) (Operand.tmp 58))⟩, [1000], [3, 1000], []⟩,
        ⟨⟨none, some 60, (Op.fieldAddr 35 (Operand.tmp 59) 3)⟩, [], [3, 1000], []⟩,
        ⟨⟨none, some 61, (Op.load 33 (Operand.tmp 60))⟩, [1000], [3, 1000], []⟩,
        ⟨⟨none, some 62, (Op.indexAddr 23 (Operand.tmp 54) (Operand.tmp 55))⟩, [1000], [], []⟩,
        ⟨⟨none, some 63, (Op.fieldAddr 35 (Operand.tmp 62) 3)⟩, [], [], []⟩,
        ⟨⟨none, none, (Op.store 33 (Operand.tmp 63) (Operand.tmp 61))⟩, [], [], []⟩])
     (.seq (.reg [⟨none, some 64, (Op.load 25 (Operand.tmp 3))⟩,
         ⟨none, none, (Op.store 25 (Operand.tmp 6) (Operand.tmp 64))⟩,
         ⟨none, some 7, (Op.assign (Operand.const (Value.int IntKind.i64 0)))⟩])
      (.ret)))))
theorem vc128 {args : List AV} {L : List (Nat × Ob)} {R : AV → List (Nat × Ob) → Prop} (ha : args.length ≤ 65) (hL : (L.map (·.1)).Nodup)
    (h : ev Go.Proofs.Tryd.prog ⟨65, L.map (·.1)⟩ ac128 (retQ Go.Proofs.Tryd.prog [(ResultVar.cell 6 25), (ResultVar.tmp 7)] R) ⟨argT args, hpOf L, Us.of (L.map (·.1))⟩) : ACall Go.Proofs.Tryd.prog 128 args L R :=
  acallA (by kernel_rfl) 65 [(4, [⟨0, [], [], [], [1, 3, 4, 5, 6, 7, 8, 9, 10, 11, 12, 13, 14, 15, 16, 17, 18, 19, 20, 21, 22, 23, 24, 25, 26, 27, 28, 29, 30, 31]⟩, ⟨1, [3, 1000], [], [], [3, 4, 5, 6, 7, 8, 9, 10, 11, 12, 13, 14, 15, 16, 17, 18, 19, 20, 21, 22, 23, 24, 25, 26, 27, 28, 29, 30, 31]⟩, ⟨2, [], [3, 1000], [], [3, 4, 5, 6, 7, 8, 9, 10, 11, 12, 13, 14, 15, 16, 17, 18, 19, 20, 21, 22, 23, 24, 25, 26, 27, 28, 29, 30, 31]⟩, ⟨3, [1000], [], [], [4, 5, 6, 7, 8, 9, 10, 11, 12, 13, 14, 15, 16, 17, 18, 19, 20, 21, 22, 23, 24, 25, 26, 27, 28, 29, 30, 31]⟩, ⟨4, [], [], [], [5, 6, 7, 8, 9, 10, 11, 12, 13, 14, 15, 16, 17, 18, 19, 20, 21, 22, 23, 24, 25, 26, 27, 28, 29, 30, 31]⟩, ⟨5, [1000], [], [], [6, 7, 8, 9, 10, 11, 12, 13, 14, 15, 16, 17, 18, 19, 20, 21, 22, 23, 24, 25, 26, 27, 28, 29, 30, 31]⟩, ⟨6, [], [], [], [7, 8, 9, 10, 11, 12, 13, 14, 15, 16, 17, 18, 19, 20, 21, 22, 23, 24, 25, 26, 27, 28, 29, 30, 31]⟩, ⟨7, [], [], [], [8, 9, 10, 11, 12, 13, 14, 15, 16, 17, 18, 19, 20, 21, 22, 23, 24, 25, 26, 27, 28, 29, 30, 31]⟩, ⟨8, [], [], [], [9, 11, 12, 13, 14, 15, 16, 17, 18, 19, 20, 21, 22, 23, 24, 25, 26, 27, 28, 29, 30, 31]⟩, ⟨9, [3, 1000], [], [], [11, 12, 13, 14, 15, 16, 17, 18, 19, 20, 21, 22, 23, 24, 25, 26, 27, 28, 29, 30, 31]⟩, ⟨10, [], [3, 1000], [], [11, 12, 13, 14, 15, 16, 17, 18, 19, 20, 21, 22, 23, 24, 25, 26, 27, 28, 29, 30, 31]⟩, ⟨11, [1000], [], [], [12, 13, 14, 15, 16, 17, 18, 19, 20, 21, 22, 23, 24, 25, 26, 27, 28, 29, 30, 31]⟩, ⟨12, [], [], [], [13, 14, 15, 16, 17, 18, 19, 20, 21, 22, 23, 24, 25, 26, 27, 28, 29, 30, 31]⟩, ⟨13, [1000], [], [], [14, 15, 16, 17, 18, 19, 20, 21, 22, 23, 24, 25, 26, 27, 28, 29, 30, 31]⟩, ⟨14, [], [], [], [15, 16, 17, 18, 19, 20, 21, 22, 23, 24, 25, 26, 27, 28, 29, 30, 31]⟩, ⟨15, [], [], [], [16, 17, 18, 19, 20, 21, 22, 23, 24, 25, 26, 27, 28, 29, 30, 31]⟩, ⟨16, [], [], [], [17, 18, 19, 20, 21, 22, 23, 24, 25, 26, 27, 28, 29, 30, 31]⟩, ⟨17, [], [], [], [18, 20, 21, 22, 29, 30, 31]⟩, ⟨18, [3, 1000], [], [], [20, 21, 22, 29, 30, 31]⟩, ⟨19, [], [3, 1000], [], [20, 21, 22, 29, 30, 31]⟩, ⟨20, [1000], [], [], [21, 22, 29, 30, 31]⟩, ⟨21, [], [], [], [22, 29, 30, 31]⟩, ⟨22, [1000], [], [], [29, 30, 31]⟩, ⟨23, [], [3, 1000], [], [24, 26, 27, 28, 29, 30, 31]⟩, ⟨24, [3, 1000], [3, 1000], [], [26, 27, 28, 29, 30, 31]⟩, ⟨25, [], [3, 1000], [], [26, 27, 28, 29, 30, 31]⟩, ⟨26, [1000], [3, 1000], [], [27, 28, 29, 30, 31]⟩, ⟨27, [], [3, 1000], [], [28, 29, 30, 31]⟩, ⟨28, [1000], [3, 1000], [], [29, 30, 31]⟩, ⟨29, [], [], [], [30, 31]⟩, ⟨30, [], [], [], [31]⟩, ⟨31, [], [], [], []⟩]), (6, [⟨0, [], [], [], [1, 9, 10, 11]⟩, ⟨1, [3, 1000], [], [], [9, 10, 11]⟩, ⟨2, [], [3, 1000], [], [9, 10, 11]⟩, ⟨3, [], [3, 1000], [], [4, 6, 7, 8, 9, 10, 11]⟩, ⟨4, [3, 1000], [3, 1000], [], [6, 7, 8, 9, 10, 11]⟩, ⟨5, [], [3, 1000], [], [6, 7, 8, 9, 10, 11]⟩, ⟨6, [1000], [3, 1000], [], [7, 8, 9, 10, 11]⟩, ⟨7, [], [3, 1000], [], [8, 9, 10, 11]⟩, ⟨8, [1000], [3, 1000], [], [9, 10, 11]⟩, ⟨9, [1000], [], [], [10, 11]⟩, ⟨10, [], [], [], [11]⟩, ⟨11, [], [], [], []⟩])] [(ResultVar.cell 6 25), (ResultVar.tmp 7)] Go.Proofs.Tryd.func128 (by kernel_rfl) Go.Proofs.Tryd.ntmps128 (by kernel_rfl) ha hL (va_of_ev _ h)
theorem en128 : enters Go.Proofs.Tryd.prog 128 = true := by kernel_rfl
def ac60 : ACode :=
  .seq (.reg [⟨none, some 2, (Op.box 25 (Operand.tmp 0))⟩,
     ⟨none, some 3, (Op.box 27 (Operand.tmp 1))⟩,
     ⟨none, some 4, (Op.alloc 25)⟩,
     ⟨none, some 5, (Op.assign (Operand.const (Value.int IntKind.i64 0)))⟩])
  (.seq (.seq (.reg [⟨none, some 10, (Op.fieldAddr 27 (Operand.tmp 3) 0)⟩,
       ⟨none, some 11, (Op.load 3 (Operand.tmp 10))⟩,
       ⟨none, some 12, (Op.binOp BinOp.eql 3 (Operand.tmp 11) (Operand.const (Value.int IntKind.i64 1)) 3)⟩])
    (.cond (Operand.tmp 12) (.seq (.reg [⟨none, some 13, (Op.load 25 (Operand.tmp 2))⟩,
         ⟨none, some 14, (Op.fieldAddr 27 (Operand.tmp 3) 1)⟩,
         ⟨none, some 15, (Op.load 9 (Operand.tmp 14))⟩,
         ⟨none, some 16, (Op.build 35 #[(0, (Operand.tmp 15)), (1, (Operand.const (Value.int IntKind.i64 1)))])⟩,
         ⟨none, some 17, (Op.call ⟨(Callee.value (Operand.func 124)), #[(Operand.tmp 13), (Operand.tmp 16)], #[25, 35]⟩)⟩,
         ⟨none, some 18, (Op.extract (Operand.tmp 17) 0)⟩,
         ⟨none, some 19, (Op.extract (Operand.tmp 17) 1)⟩,
         ⟨none, none, (Op.store 25 (Operand.tmp 4) (Operand.tmp 18))⟩,
         ⟨none, some 5, (Op.assign (Operand.tmp 19))⟩])
      (.ret)) (.skip)))
   (.seq (.seq (.reg [⟨none, some 20, (Op.fieldAddr 27 (Operand.tmp 3) 0)⟩,
        ⟨none, some 21, (Op.load 3 (Operand.tmp 20))⟩,
        ⟨none, some 22, (Op.binOp BinOp.lss 3 (Operand.tmp 21) (Operand.const (Value.int IntKind.i64 1)) 3)⟩,
        ⟨none, some 23, (Op.move (Operand.tmp 22))⟩,
        ⟨some (23, false), some 24, (Op.fieldAddr 27 (Operand.tmp 3) 0)⟩,
        ⟨some (23, false), some 25, (Op.load 3 (Operand.tmp 24))⟩,
        ⟨some (23, false), some 26, (Op.binOp BinOp.gtr 3 (Operand.tmp 25) (Operand.const (Value.int IntKind.i64 6)) 3)⟩,
        ⟨none, some 27, (Op.pick (Operand.tmp 23) (Operand.const (Value.bool true)) (Operand.tmp 26))⟩])
     (.cond (Operand.tmp 27) (.seq (.reg [⟨none, some 28, (Op.load 25 (Operand.tmp 2))⟩,
          ⟨none, none, (Op.store 25 (Operand.tmp 4) (Operand.tmp 28))⟩,
          ⟨none, some 5, (Op.assign (Operand.const (Value.int IntKind.i64 5)))⟩])
       (.ret)) (.skip)))
    (.seq (.reg [⟨none, some 30, (Op.load 25 (Operand.tmp 2))⟩,
        ⟨none, some 31, (Op.fieldAddr 27 (Operand.tmp 3) 1)⟩,
        ⟨none, some 32, (Op.load 9 (Operand.tmp 31))⟩,
        ⟨none, some 33, (Op.call ⟨(Callee.value (Operand.func 125)), #[(Operand.tmp 30), (Operand.tmp 32)], #[25, 9]⟩)⟩,
        ⟨none, some 29, (Op.move (Operand.tmp 33))⟩,
        ⟨none, some 34, (Op.extract (Operand.tmp 29) 0)⟩,
        ⟨none, some 35, (Op.extract (Operand.tmp 29) 1)⟩,
        ⟨none, some 6, (Op.assign (Operand.tmp 34))⟩,
        ⟨none, some 7, (Op.assign (Operand.tmp 35))⟩])
     (.seq (.seq (.reg [⟨none, some 36, (Op.move (Operand.tmp 7))⟩,
          ⟨none, some 37, (Op.unOp UnOp.not 4 (Operand.tmp 36))⟩])
       (.cond (Operand.tmp 37) (.seq (.reg [⟨none, some 38, (Op.load 25 (Operand.tmp 2))⟩,
            ⟨none, none, (Op.store 25 (Operand.tmp 4) (Operand.tmp 38))⟩,
            ⟨none, some 5, (Op.assign (Operand.const (Value.int IntKind.i64 1)))⟩])
         (.ret)) (.skip)))
      (.seq (.reg [⟨none, some 39, (Op.fieldAddr 25 (Operand.tmp 2) 0)⟩,
          ⟨none, some 40, (Op.load 23 (Operand.tmp 39))⟩,
          ⟨none, some 41, (Op.move (Operand.tmp 6))⟩,
          ⟨none, some 42, (Op.indexAddr 23 (Operand.tmp 40) (Operand.tmp 41))⟩,
          ⟨none, some 43, (Op.load 35 (Operand.tmp 42))⟩,
          ⟨none, some 8, (Op.alloc 35)⟩,
          ⟨none, none, (Op.store 35 (Operand.tmp 8) (Operand.tmp 43))⟩])
       (.seq (.seq (.reg [⟨none, some 44, (Op.fieldAddr 27 (Operand.tmp 3) 0)⟩,
            ⟨none, some 45, (Op.load 3 (Operand.tmp 44))⟩])
         (.block 0 (.seq (.reg [⟨none, some 47, (Op.binOp BinOp.eql 3 (Operand.tmp 45) (Operand.const (Value.int IntKind.i64 2)) 3)⟩,
              ⟨none, some 46, (Op.assign (Operand.tmp 47))⟩])
           (.cond (Operand.tmp 46) (.seq (.reg [⟨none, some 48, (Op.load 25 (Operand.tmp 2))⟩,
                ⟨none, some 49, (Op.move (Operand.tmp 6))⟩,
                ⟨none, some 50, (Op.call ⟨(Callee.value (Operand.func 126)), #[(Operand.tmp 48), (Operand.tmp 49)], #[25, 3]⟩)⟩,
                ⟨none, some 51, (Op.extract (Operand.tmp 50) 0)⟩,
                ⟨none, some 52, (Op.extract (Operand.tmp 50) 1)⟩,
                ⟨none, none, (Op.store 25 (Operand.tmp 4) (Operand.tmp 51))⟩,
                ⟨none, some 5, (Op.assign (Operand.tmp 52))⟩])
             (.ret)) (.seq (.reg [⟨none, some 54, (Op.binOp BinOp.eql 3 (Operand.tmp 45) (Operand.const (Value.int IntKind.i64 3)) 3)⟩,
                ⟨none, some 53, (Op.assign (Operand.tmp 54))⟩])
             (.cond (Operand.tmp 53) (.seq (.reg [⟨none, some 55, (Op.load 25 (Operand.tmp 2))⟩,
                  ⟨none, some 56, (Op.move (Operand.tmp 6))⟩,
                  ⟨none, some 57, (Op.load 27 (Operand.tmp 3))⟩,
                  ⟨none, some 58, (Op.call ⟨(Callee.value (Operand.func 127)), #[(Operand.tmp 55), (Operand.tmp 56), (Operand.tmp 57)], #[25, 3, 27]⟩)⟩,
                  ⟨none, some 59, (Op.extract (Operand.tmp 58) 0)⟩,
                  ⟨none, some 60, (Op.extract (Operand.tmp 58) 1)⟩,
                  ⟨none, none, (Op.store 25 (Operand.tmp 4) (Operand.tmp 59))⟩,
                  ⟨none, some 5, (Op.assign (Operand.tmp 60))⟩])
               (.ret)) (.seq (.reg [⟨none, some 62, (Op.binOp BinOp.eql 3 (Operand.tmp 45) (Operand.const (Value.int IntKind.i64 6)) 3)⟩,
                  ⟨none, some 61, (Op.assign (Operand.tmp 62))⟩])
               (.cond (Operand.tmp 61) (.seq (.reg [⟨none, some 63, (Op.load 25 (Operand.tmp 2))⟩,
                    ⟨none, some 64, (Op.move (Operand.tmp 6))⟩,
                    ⟨none, some 65, (Op.fieldAddr 27 (Operand.tmp 3) 2)⟩,
                    ⟨none, some 66, (Op.load 9 (Operand.tmp 65))⟩,
                    ⟨none, some 67, (Op.call ⟨(Callee.value (Operand.func 128)), #[(Operand.tmp 63), (Operand.tmp 64), (Operand.tmp 66)], #[25, 3, 9]⟩)⟩,
                    ⟨none, some 68, (Op.extract (Operand.tmp 67) 0)⟩,
                    ⟨none, some 69, (Op.extract (Operand.tmp 67) 1)⟩,
                    ⟨none, none, (Op.store 25 (Operand.tmp 4) (Operand.tmp 68))⟩,
                    ⟨none, some 5, (Op.assign (Operand.tmp 69))⟩])
                 (.ret)) (.skip)))))))))
        (.seq (.reg [⟨none, some 9, (Op.assign (Operand.const (Value.int IntKind.i64 1)))⟩])
         (.seq (.seq (.reg [⟨none, some 70, (Op.fieldAddr 27 (Operand.tmp 3) 0)⟩,
              ⟨none, some 71, (Op.load 3 (Operand.tmp 70))⟩,
              ⟨none, some 72, (Op.binOp BinOp.eql 3 (Operand.tmp 71) (Operand.const (Value.int IntKind.i64 5)) 3)⟩])
           (.cond (Operand.tmp 72) (.reg [⟨none, some 9, (Op.assign (Operand.const (Value.int IntKind.i64 2)))⟩]) (.skip)))
          (.seq (.seq (.reg [⟨none, some 73, (Op.fieldAddr 35 (Operand.tmp 8) 1)⟩,
               ⟨none, some 74, (Op.load 3 (Operand.tmp 73))⟩,
               ⟨none, some 75, (Op.move (Operand.tmp 9))⟩,
               ⟨none, some 76, (Op.binOp BinOp.neq 3 (Operand.tmp 74) (Operand.tmp 75) 3)⟩])
            (.cond (Operand.tmp 76) (.seq (.reg [⟨none, some 77, (Op.load 25 (Operand.tmp 2))⟩,
                 ⟨none, none, (Op.store 25 (Operand.tmp 4) (Operand.tmp 77))⟩,
                 ⟨none, some 5, (Op.assign (Operand.const (Value.int IntKind.i64 3)))⟩])
              (.ret)) (.skip)))
           (.seq (.reg [⟨none, some 78, (Op.load 25 (Operand.tmp 2))⟩,
               ⟨none, some 79, (Op.fieldAddr 27 (Operand.tmp 3) 2)⟩,
               ⟨none, some 80, (Op.load 9 (Operand.tmp 79))⟩,
               ⟨none, some 81, (Op.move (Operand.tmp 9))⟩,
               ⟨none, some 82, (Op.binOp BinOp.sub 3 (Operand.const (Value.int IntKind.i64 3)) (Operand.tmp 81) 3)⟩,
               ⟨none, some 83, (Op.fieldAddr 35 (Operand.tmp 8) 0)⟩,
               ⟨none, some 84, (Op.load 9 (Operand.tmp 83))⟩,
               ⟨none, some 85, (Op.fieldAddr 35 (Operand.tmp 8) 3)⟩,
               ⟨none, some 86, (Op.load 33 (Operand.tmp 85))⟩,
               ⟨none, some 87, (Op.build 35 #[(0, (Operand.tmp 80)), (1, (Operand.tmp 82)), (2, (Operand.tmp 84)), (3, (Operand.tmp 86))])⟩,
               ⟨none, some 88, (Op.call ⟨(Callee.value (Operand.func 124)), #[(Operand.tmp 78), (Operand.tmp 87)], #[25, 35]⟩)⟩,
               ⟨none, some 89, (Op.extract (Operand.tmp 88) 0)⟩,
               ⟨none, some 90, (Op.extract (Operand.tmp 88) 1)⟩,
               ⟨none, none, (Op.store 25 (Operand.tmp 4) (Operand.tmp 89))⟩,
               ⟨none, some 5, (Op.assign (Operand.tmp 90))⟩])
            (.ret)))))))))))
theorem vc60 {args : List AV} {L : List (Nat × Ob)} {R : AV → List (Nat × Ob) → Prop} (ha : args.length ≤ 91) (hL : (L.map (·.1)).Nodup)
    (h : ev Go.Proofs.Tryd.prog ⟨91, L.map (·.1)⟩ ac60 (retQ Go.Proofs.Tryd.prog [(ResultVar.cell 4 25), (ResultVar.tmp 5)] R) ⟨argT args, hpOf L, Us.of (L.map (·.1))⟩) : ACall Go.Proofs.Tryd.prog 60 args L R :=
  acallA (by kernel_rfl) 91 [] [(ResultVar.cell 4 25), (ResultVar.tmp 5)] Go.Proofs.Tryd.func60 (by kernel_rfl) Go.Proofs.Tryd.ntmps60 (by kernel_rfl) ha hL (va_of_ev _ h)
theorem en60 : enters Go.Proofs.Tryd.prog 60 = true := by kernel_rfl
def ac17 : ACode :=
  .seq (.reg [⟨none, some 2, (Op.box 25 (Operand.tmp 0))⟩,
     ⟨none, some 3, (Op.box 27 (Operand.tmp 1))⟩,
     ⟨none, some 4, (Op.alloc 25)⟩,
     ⟨none, some 5, (Op.assign (Operand.const (Value.int IntKind.i64 0)))⟩])
  (.seq (.seq (.reg [⟨none, some 6, (Op.load 25 (Operand.tmp 2))⟩,
       ⟨none, some 7, (Op.call ⟨(Callee.value (Operand.func 18)), #[(Operand.tmp 6)], #[25]⟩)⟩,
       ⟨none, some 8, (Op.unOp UnOp.not 4 (Operand.tmp 7))⟩])
    (.cond (Operand.tmp 8) (.seq (.reg [⟨none, some 9, (Op.build 25 #[])⟩,
         ⟨none, none, (Op.store 25 (Operand.tmp 4) (Operand.tmp 9))⟩,
         ⟨none, some 5, (Op.assign (Operand.const (Value.int IntKind.i64 5)))⟩])
      (.ret)) (.skip)))
   (.seq (.draw [⟨⟨none, some 10, (Op.load 25 (Operand.tmp 2))⟩, [2], [], []⟩,
       ⟨⟨none, some 12, (Op.load 27 (Operand.tmp 3))⟩, [3], [2], []⟩,
       ⟨⟨none, some 11, (Op.call ⟨(Callee.value (Operand.func 61)), #[(Operand.tmp 10)], #[25]⟩)⟩, [], [3], []⟩,
       ⟨⟨none, some 13, (Op.call ⟨(Callee.value (Operand.func 60)), #[(Operand.tmp 11), (Operand.tmp 12)], #[25, 27]⟩)⟩, [], [], []⟩,
       ⟨⟨none, some 14, (Op.extract (Operand.tmp 13) 0)⟩, [], [], []⟩,
       ⟨⟨none, some 15, (Op.extract (Operand.tmp 13) 1)⟩, [], [], []⟩,
       ⟨⟨none, none, (Op.store 25 (Operand.tmp 4) (Operand.tmp 14))⟩, [], [], []⟩,
       ⟨⟨none, some 5, (Op.assign (Operand.tmp 15))⟩, [], [], []⟩])
    (.ret)))
theorem vc17 {args : List AV} {L : List (Nat × Ob)} {R : AV → List (Nat × Ob) → Prop} (ha : args.length ≤ 16) (hL : (L.map (·.1)).Nodup)
    (h : ev Go.Proofs.Tryd.prog ⟨16, L.map (·.1)⟩ ac17 (retQ Go.Proofs.Tryd.prog [(ResultVar.cell 4 25), (ResultVar.tmp 5)] R) ⟨argT args, hpOf L, Us.of (L.map (·.1))⟩) : ACall Go.Proofs.Tryd.prog 17 args L R :=
  acallA (by kernel_rfl) 16 [(3, [⟨0, [2], [], [], [1, 3, 4, 5, 6, 7]⟩, ⟨2, [3], [2], [], [3, 4, 5, 6, 7]⟩, ⟨1, [], [3], [], [3, 4, 5, 6, 7]⟩, ⟨3, [], [], [], [4, 5, 6, 7]⟩, ⟨4, [], [], [], [6, 7]⟩, ⟨5, [], [], [], [6, 7]⟩, ⟨6, [], [], [], [7]⟩, ⟨7, [], [], [], []⟩])] [(ResultVar.cell 4 25), (ResultVar.tmp 5)] Go.Proofs.Tryd.func17 (by kernel_rfl) Go.Proofs.Tryd.ntmps17 (by kernel_rfl) ha hL (va_of_ev _ h)
end Go.Av.F
end
