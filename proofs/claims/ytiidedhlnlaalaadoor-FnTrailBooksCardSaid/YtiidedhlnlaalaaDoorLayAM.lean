/- Lemmas for the proof, no statement of the seat: AvY8, AvZ16, AvZ17, AvP4, AvLaw9; no conditions. -/
import Derived.Test.YtiidedhlnlaalaaDoorLayAL
import Derived.Test.YtiidedhlnlaalaaDoorProg
section
/- Functions of the program in the short form; printed by acgen.py. -/
namespace Go.Av.F
open Go Go.Av
set_option maxRecDepth 100000
set_option linter.constructorNameAsVariable false
def ac92_l0 : ACode :=
  .seq (.reg [⟨none, some 13, (Op.binOp BinOp.lss 3 (Operand.tmp 12) (Operand.tmp 11) 3)⟩])
  (.seq (.cond (Operand.tmp 13) (.skip) (.exit 0))
   (.seq (.block 1 (.seq (.reg [⟨none, some 14, (Op.indexAddr 42 (Operand.tmp 10) (Operand.tmp 12))⟩,
         ⟨none, some 15, (Op.load 9 (Operand.tmp 14))⟩,
         ⟨none, some 7, (Op.assign (Operand.tmp 15))⟩])
      (.reg [⟨none, some 16, (Op.move (Operand.tmp 5))⟩,
         ⟨none, some 17, (Op.load 25 (Operand.tmp 2))⟩,
         ⟨none, some 18, (Op.move (Operand.tmp 7))⟩,
         ⟨none, some 19, (Op.call ⟨(Callee.value (Operand.func 92)), #[(Operand.tmp 17), (Operand.tmp 18)], #[25, 9]⟩)⟩,
         ⟨none, some 20, (Op.call ⟨(Callee.builtin Builtin.append), #[(Operand.tmp 16), (Operand.tmp 19)], #[42, 42]⟩)⟩,
         ⟨none, some 5, (Op.assign (Operand.tmp 20))⟩])))
    (.reg [⟨none, some 21, (Op.binOp BinOp.add 3 (Operand.tmp 12) (Operand.const (Value.int IntKind.i64 1)) 3)⟩,
       ⟨none, some 12, (Op.move (Operand.tmp 21))⟩])))
/-- (impl.Book).under -/
def ac92 : ACode :=
  .seq (.reg [⟨none, some 2, (Op.box 25 (Operand.tmp 0))⟩,
     ⟨none, some 4, (Op.assign (Operand.const (Value.slice none 0 0)))⟩])
  (.seq (.reg [⟨none, some 5, (Op.assign (Operand.const (Value.slice none 0 0)))⟩])
   (.seq (.seq (.reg [⟨none, some 8, (Op.load 25 (Operand.tmp 2))⟩,
        ⟨none, some 9, (Op.move (Operand.tmp 1))⟩,
        ⟨none, some 10, (Op.call ⟨(Callee.value (Operand.func 74)), #[(Operand.tmp 8), (Operand.tmp 9)], #[25, 9]⟩)⟩,
        ⟨none, some 11, (Op.call ⟨(Callee.builtin Builtin.len), #[(Operand.tmp 10)], #[42]⟩)⟩,
        ⟨none, some 12, (Op.move (Operand.const (Value.int IntKind.i64 0)))⟩])
     (.block 0 (.loop ac92_l0)))
    (.seq (.reg [⟨none, some 22, (Op.move (Operand.tmp 5))⟩,
        ⟨none, some 23, (Op.move (Operand.tmp 1))⟩,
        ⟨none, some 24, (Op.buildSlice 42 1 #[(0, (Operand.tmp 23))])⟩,
        ⟨none, some 25, (Op.call ⟨(Callee.builtin Builtin.append), #[(Operand.tmp 22), (Operand.tmp 24)], #[42, 42]⟩)⟩,
        ⟨none, some 4, (Op.assign (Operand.tmp 25))⟩])
     (.ret))))
theorem vc92 {args : List AV} {L : List (Nat × Ob)} {R : AV → List (Nat × Ob) → Prop} (ha : args.length ≤ 26) (hL : (L.map (·.1)).Nodup)
    (h : ev Go.Proofs.Tryd.prog ⟨26, L.map (·.1)⟩ ac92 (retQ Go.Proofs.Tryd.prog [(ResultVar.tmp 4)] R) ⟨argT args, hpOf L, Us.of (L.map (·.1))⟩) : ACall Go.Proofs.Tryd.prog 92 args L R :=
  acallA (by kernel_rfl) 26 [] [(ResultVar.tmp 4)] Go.Proofs.Tryd.func92 (by kernel_rfl) Go.Proofs.Tryd.ntmps92 (by kernel_rfl) ha hL (va_of_ev _ h)
theorem en92 : enters Go.Proofs.Tryd.prog 92 = true := by kernel_rfl
def ac35_l0 : ACode :=
  .seq (.reg [⟨none, some 13, (Op.binOp BinOp.lss 3 (Operand.tmp 12) (Operand.tmp 11) 3)⟩])
  (.seq (.cond (Operand.tmp 13) (.skip) (.exit 0))
   (.seq (.block 1 (.seq (.reg [⟨none, some 14, (Op.indexAddr 42 (Operand.tmp 10) (Operand.tmp 12))⟩,
         ⟨none, some 15, (Op.load 9 (Operand.tmp 14))⟩,
         ⟨none, some 5, (Op.assign (Operand.tmp 15))⟩])
      (.reg [⟨none, some 16, (Op.move (Operand.tmp 3))⟩,
         ⟨none, some 17, (Op.load 25 (Operand.tmp 1))⟩,
         ⟨none, some 18, (Op.move (Operand.tmp 5))⟩,
         ⟨none, some 19, (Op.call ⟨(Callee.value (Operand.func 92)), #[(Operand.tmp 17), (Operand.tmp 18)], #[25, 9]⟩)⟩,
         ⟨none, some 20, (Op.call ⟨(Callee.builtin Builtin.append), #[(Operand.tmp 16), (Operand.tmp 19)], #[42, 42]⟩)⟩,
         ⟨none, some 3, (Op.assign (Operand.tmp 20))⟩])))
    (.reg [⟨none, some 21, (Op.binOp BinOp.add 3 (Operand.tmp 12) (Operand.const (Value.int IntKind.i64 1)) 3)⟩,
       ⟨none, some 12, (Op.move (Operand.tmp 21))⟩])))
/-- impl.TreeAll -/
def ac35 : ACode :=
  .seq (.reg [⟨none, some 1, (Op.box 25 (Operand.tmp 0))⟩,
     ⟨none, some 2, (Op.assign (Operand.const (Value.slice none 0 0)))⟩])
  (.seq (.seq (.reg [⟨none, some 6, (Op.load 25 (Operand.tmp 1))⟩,
       ⟨none, some 7, (Op.call ⟨(Callee.value (Operand.func 21)), #[(Operand.tmp 6)], #[25]⟩)⟩,
       ⟨none, some 8, (Op.unOp UnOp.not 4 (Operand.tmp 7))⟩])
    (.cond (Operand.tmp 8) (.seq (.reg [⟨none, some 2, (Op.assign (Operand.const (Value.slice none 0 0)))⟩])
      (.ret)) (.skip)))
   (.seq (.reg [⟨none, some 3, (Op.assign (Operand.const (Value.slice none 0 0)))⟩])
    (.seq (.seq (.reg [⟨none, some 9, (Op.load 25 (Operand.tmp 1))⟩,
         ⟨none, some 10, (Op.call ⟨(Callee.value (Operand.func 74)), #[(Operand.tmp 9), (Operand.const (Value.string ⟨#[]⟩))], #[25, 9]⟩)⟩,
         ⟨none, some 11, (Op.call ⟨(Callee.builtin Builtin.len), #[(Operand.tmp 10)], #[42]⟩)⟩,
         ⟨none, some 12, (Op.move (Operand.const (Value.int IntKind.i64 0)))⟩])
      (.block 0 (.loop ac35_l0)))
     (.seq (.reg [⟨none, some 22, (Op.move (Operand.tmp 3))⟩,
         ⟨none, some 2, (Op.assign (Operand.tmp 22))⟩])
      (.ret)))))
theorem vc35 {args : List AV} {L : List (Nat × Ob)} {R : AV → List (Nat × Ob) → Prop} (ha : args.length ≤ 23) (hL : (L.map (·.1)).Nodup)
    (h : ev Go.Proofs.Tryd.prog ⟨23, L.map (·.1)⟩ ac35 (retQ Go.Proofs.Tryd.prog [(ResultVar.tmp 2)] R) ⟨argT args, hpOf L, Us.of (L.map (·.1))⟩) : ACall Go.Proofs.Tryd.prog 35 args L R :=
  acallA (by kernel_rfl) 23 [] [(ResultVar.tmp 2)] Go.Proofs.Tryd.func35 (by kernel_rfl) Go.Proofs.Tryd.ntmps35 (by kernel_rfl) ha hL (va_of_ev _ h)
theorem en35 : enters Go.Proofs.Tryd.prog 35 = true := by kernel_rfl
def ac159_l0 : ACode :=
  .seq (.seq (.reg [⟨none, some 14, (Op.move (Operand.tmp 9))⟩,
      ⟨none, some 15, (Op.move (Operand.tmp 8))⟩,
      ⟨none, some 16, (Op.call ⟨(Callee.builtin Builtin.len), #[(Operand.tmp 15)], #[42]⟩)⟩,
      ⟨none, some 17, (Op.binOp BinOp.lss 3 (Operand.tmp 14) (Operand.tmp 16) 3)⟩,
      ⟨none, some 18, (Op.move (Operand.tmp 17))⟩,
      ⟨some (18, true), some 19, (Op.move (Operand.tmp 2))⟩,
      ⟨some (18, true), some 20, (Op.binOp BinOp.gtr 3 (Operand.tmp 19) (Operand.const (Value.int IntKind.i64 0)) 3)⟩,
      ⟨none, some 21, (Op.pick (Operand.tmp 18) (Operand.tmp 20) (Operand.const (Value.bool false)))⟩])
   (.cond (Operand.tmp 21) (.skip) (.exit 0)))
  (.seq (.block 1 (.draw [⟨⟨none, some 24, (Op.move (Operand.tmp 7))⟩, [], [], []⟩,
       ⟨⟨none, some 25, (Op.load 25 (Operand.tmp 3))⟩, [3], [], []⟩,
       ⟨⟨none, some 26, (Op.move (Operand.tmp 8))⟩, [], [3], []⟩,
       ⟨⟨none, some 27, (Op.move (Operand.tmp 9))⟩, [], [3], []⟩,
       ⟨⟨none, some 28, (Op.indexAddr 42 (Operand.tmp 26) (Operand.tmp 27))⟩, [], [3], []⟩,
       ⟨⟨none, some 29, (Op.load 9 (Operand.tmp 28))⟩, [], [3], []⟩,
       ⟨⟨none, some 30, (Op.move (Operand.tmp 2))⟩, [], [3], []⟩,
       ⟨⟨none, some 31, (Op.binOp BinOp.sub 3 (Operand.tmp 30) (Operand.const (Value.int IntKind.i64 1)) 3)⟩, [], [3], []⟩,
       ⟨⟨none, some 32, (Op.call ⟨(Callee.value (Operand.func 159)), #[(Operand.tmp 25), (Operand.tmp 29), (Operand.tmp 31)], #[25, 9, 3]⟩)⟩, [], [], []⟩,
       ⟨⟨none, some 33, (Op.call ⟨(Callee.builtin Builtin.append), #[(Operand.tmp 24), (Operand.tmp 32)], #[42, 42]⟩)⟩, [], [], []⟩,
       ⟨⟨none, some 7, (Op.assign (Operand.tmp 33))⟩, [], [], []⟩]))
   (.reg [⟨none, some 22, (Op.move (Operand.tmp 9))⟩,
      ⟨none, some 23, (Op.binOp BinOp.add 3 (Operand.tmp 22) (Operand.const (Value.int IntKind.i64 1)) 3)⟩,
      ⟨none, some 9, (Op.assign (Operand.tmp 23))⟩]))
/-- spec.l15Under -/
def ac159 : ACode :=
  .seq (.reg [⟨none, some 3, (Op.box 25 (Operand.tmp 0))⟩,
     ⟨none, some 6, (Op.assign (Operand.const (Value.slice none 0 0)))⟩])
  (.seq (.reg [⟨none, some 10, (Op.buildSlice 42 0 #[])⟩,
      ⟨none, some 7, (Op.assign (Operand.tmp 10))⟩])
   (.seq (.reg [⟨none, some 11, (Op.load 25 (Operand.tmp 3))⟩,
       ⟨none, some 12, (Op.move (Operand.tmp 1))⟩,
       ⟨none, some 13, (Op.call ⟨(Callee.value (Operand.func 25)), #[(Operand.tmp 11), (Operand.tmp 12)], #[25, 9]⟩)⟩,
       ⟨none, some 8, (Op.assign (Operand.tmp 13))⟩])
    (.seq (.seq (.reg [⟨none, some 9, (Op.assign (Operand.const (Value.int IntKind.i64 0)))⟩])
      (.block 0 (.loop ac159_l0)))
     (.seq (.reg [⟨none, some 34, (Op.move (Operand.tmp 7))⟩,
         ⟨none, some 35, (Op.move (Operand.tmp 1))⟩,
         ⟨none, some 36, (Op.buildSlice 42 1 #[(0, (Operand.tmp 35))])⟩,
         ⟨none, some 37, (Op.call ⟨(Callee.builtin Builtin.append), #[(Operand.tmp 34), (Operand.tmp 36)], #[42, 42]⟩)⟩,
         ⟨none, some 6, (Op.assign (Operand.tmp 37))⟩])
      (.ret)))))
theorem vc159 {args : List AV} {L : List (Nat × Ob)} {R : AV → List (Nat × Ob) → Prop} (ha : args.length ≤ 38) (hL : (L.map (·.1)).Nodup)
    (h : ev Go.Proofs.Tryd.prog ⟨38, L.map (·.1)⟩ ac159 (retQ Go.Proofs.Tryd.prog [(ResultVar.tmp 6)] R) ⟨argT args, hpOf L, Us.of (L.map (·.1))⟩) : ACall Go.Proofs.Tryd.prog 159 args L R :=
  acallA (by kernel_rfl) 38 [(6, [⟨0, [], [], [], [9, 10]⟩, ⟨1, [3], [], [], [8, 9, 10]⟩, ⟨2, [], [3], [], [4, 5, 8, 9, 10]⟩, ⟨3, [], [3], [], [4, 5, 8, 9, 10]⟩, ⟨4, [], [3], [], [5, 8, 9, 10]⟩, ⟨5, [], [3], [], [8, 9, 10]⟩, ⟨6, [], [3], [], [7, 8, 9, 10]⟩, ⟨7, [], [3], [], [8, 9, 10]⟩, ⟨8, [], [], [], [9, 10]⟩, ⟨9, [], [], [], [10]⟩, ⟨10, [], [], [], []⟩])] [(ResultVar.tmp 6)] Go.Proofs.Tryd.func159 (by kernel_rfl) Go.Proofs.Tryd.ntmps159 (by kernel_rfl) ha hL (va_of_ev _ h)
theorem en159 : enters Go.Proofs.Tryd.prog 159 = true := by kernel_rfl
/-- spec.TreeUnder -/
def ac93 : ACode :=
  .seq (.reg [⟨none, some 2, (Op.box 25 (Operand.tmp 0))⟩,
     ⟨none, some 4, (Op.assign (Operand.const (Value.slice none 0 0)))⟩])
  (.seq (.reg [⟨none, some 8, (Op.load 25 (Operand.tmp 2))⟩,
      ⟨none, some 9, (Op.move (Operand.tmp 1))⟩,
      ⟨none, some 10, (Op.call ⟨(Callee.value (Operand.func 125)), #[(Operand.tmp 8), (Operand.tmp 9)], #[25, 9]⟩)⟩,
      ⟨none, some 7, (Op.move (Operand.tmp 10))⟩,
      ⟨none, some 11, (Op.extract (Operand.tmp 7) 0)⟩,
      ⟨none, some 12, (Op.extract (Operand.tmp 7) 1)⟩,
      ⟨none, some 5, (Op.assign (Operand.tmp 11))⟩,
      ⟨none, some 6, (Op.assign (Operand.tmp 12))⟩])
   (.seq (.seq (.reg [⟨none, some 13, (Op.load 25 (Operand.tmp 2))⟩,
        ⟨none, some 14, (Op.call ⟨(Callee.value (Operand.func 18)), #[(Operand.tmp 13)], #[25]⟩)⟩,
        ⟨none, some 15, (Op.unOp UnOp.not 4 (Operand.tmp 14))⟩,
        ⟨none, some 16, (Op.move (Operand.tmp 15))⟩,
        ⟨some (16, false), some 17, (Op.move (Operand.tmp 6))⟩,
        ⟨some (16, false), some 18, (Op.unOp UnOp.not 4 (Operand.tmp 17))⟩,
        ⟨none, some 19, (Op.pick (Operand.tmp 16) (Operand.const (Value.bool true)) (Operand.tmp 18))⟩])
     (.cond (Operand.tmp 19) (.seq (.reg [⟨none, some 20, (Op.buildSlice 42 0 #[])⟩,
          ⟨none, some 4, (Op.assign (Operand.tmp 20))⟩])
       (.ret)) (.skip)))
    (.seq (.reg [⟨none, some 21, (Op.load 25 (Operand.tmp 2))⟩,
        ⟨none, some 22, (Op.move (Operand.tmp 1))⟩,
        ⟨none, some 23, (Op.fieldAddr 25 (Operand.tmp 2) 0)⟩,
        ⟨none, some 24, (Op.load 23 (Operand.tmp 23))⟩,
        ⟨none, some 25, (Op.call ⟨(Callee.builtin Builtin.len), #[(Operand.tmp 24)], #[23]⟩)⟩,
        ⟨none, some 26, (Op.call ⟨(Callee.value (Operand.func 159)), #[(Operand.tmp 21), (Operand.tmp 22), (Operand.tmp 25)], #[25, 9, 3]⟩)⟩,
        ⟨none, some 4, (Op.assign (Operand.tmp 26))⟩])
     (.ret))))
theorem vc93 {args : List AV} {L : List (Nat × Ob)} {R : AV → List (Nat × Ob) → Prop} (ha : args.length ≤ 27) (hL : (L.map (·.1)).Nodup)
    (h : ev Go.Proofs.Tryd.prog ⟨27, L.map (·.1)⟩ ac93 (retQ Go.Proofs.Tryd.prog [(ResultVar.tmp 4)] R) ⟨argT args, hpOf L, Us.of (L.map (·.1))⟩) : ACall Go.Proofs.Tryd.prog 93 args L R :=
  acallA (by kernel_rfl) 27 [] [(ResultVar.tmp 4)] Go.Proofs.Tryd.func93 (by kernel_rfl) Go.Proofs.Tryd.ntmps93 (by kernel_rfl) ha hL (va_of_ev _ h)
theorem en93 : enters Go.Proofs.Tryd.prog 93 = true := by kernel_rfl
def ac36_l0 : ACode :=
  .seq (.seq (.reg [⟨none, some 6, (Op.load 25 (Operand.tmp 1))⟩,
      ⟨none, some 7, (Op.call ⟨(Callee.value (Operand.func 18)), #[(Operand.tmp 6)], #[25]⟩)⟩,
      ⟨none, some 8, (Op.move (Operand.tmp 7))⟩,
      ⟨some (8, true), some 9, (Op.move (Operand.tmp 4))⟩,
      ⟨some (8, true), some 10, (Op.fieldAddr 25 (Operand.tmp 1) 0)⟩,
      ⟨some (8, true), some 11, (Op.load 23 (Operand.tmp 10))⟩,
      ⟨some (8, true), some 12, (Op.call ⟨(Callee.builtin Builtin.len), #[(Operand.tmp 11)], #[23]⟩)⟩,
      ⟨some (8, true), some 13, (Op.binOp BinOp.lss 3 (Operand.tmp 9) (Operand.tmp 12) 3)⟩,
      ⟨none, some 14, (Op.pick (Operand.tmp 8) (Operand.tmp 13) (Operand.const (Value.bool false)))⟩])
   (.cond (Operand.tmp 14) (.skip) (.exit 0)))
  (.seq (.block 1 (.seq (.reg [⟨none, some 17, (Op.fieldAddr 25 (Operand.tmp 1) 0)⟩,
        ⟨none, some 18, (Op.load 23 (Operand.tmp 17))⟩,
        ⟨none, some 19, (Op.move (Operand.tmp 4))⟩,
        ⟨none, some 20, (Op.indexAddr 23 (Operand.tmp 18) (Operand.tmp 19))⟩,
        ⟨none, some 21, (Op.fieldAddr 35 (Operand.tmp 20) 2)⟩,
        ⟨none, some 22, (Op.load 9 (Operand.tmp 21))⟩,
        ⟨none, some 23, (Op.binOp BinOp.eql 9 (Operand.tmp 22) (Operand.const (Value.string ⟨#[]⟩)) 9)⟩])
     (.cond (Operand.tmp 23) (.draw [⟨⟨none, some 24, (Op.move (Operand.tmp 3))⟩, [], [], []⟩,
         ⟨⟨none, some 25, (Op.load 25 (Operand.tmp 1))⟩, [1], [], []⟩,
         ⟨⟨none, some 26, (Op.fieldAddr 25 (Operand.tmp 1) 0)⟩, [], [1], []⟩,
         ⟨⟨none, some 27, (Op.load 23 (Operand.tmp 26))⟩, [1], [1], []⟩,
         ⟨⟨none, some 28, (Op.move (Operand.tmp 4))⟩, [], [1], []⟩,
         ⟨⟨none, some 29, (Op.indexAddr 23 (Operand.tmp 27) (Operand.tmp 28))⟩, [], [1], []⟩,
         ⟨⟨none, some 30, (Op.fieldAddr 35 (Operand.tmp 29) 0)⟩, [], [1], []⟩,
         ⟨⟨none, some 31, (Op.load 9 (Operand.tmp 30))⟩, [], [1], []⟩,
         ⟨⟨none, some 32, (Op.call ⟨(Callee.value (Operand.func 93)), #[(Operand.tmp 25), (Operand.tmp 31)], #[25, 9]⟩)⟩, [], [], []⟩,
         ⟨⟨none, some 33, (Op.call ⟨(Callee.builtin Builtin.append), #[(Operand.tmp 24), (Operand.tmp 32)], #[42, 42]⟩)⟩, [], [], []⟩,
         ⟨⟨none, some 3, (Op.assign (Operand.tmp 33))⟩, [], [], []⟩]) (.skip))))
   (.reg [⟨none, some 15, (Op.move (Operand.tmp 4))⟩,
      ⟨none, some 16, (Op.binOp BinOp.add 3 (Operand.tmp 15) (Operand.const (Value.int IntKind.i64 1)) 3)⟩,
      ⟨none, some 4, (Op.assign (Operand.tmp 16))⟩]))
/-- spec.TreeAll -/
def ac36 : ACode :=
  .seq (.reg [⟨none, some 1, (Op.box 25 (Operand.tmp 0))⟩,
     ⟨none, some 2, (Op.assign (Operand.const (Value.slice none 0 0)))⟩])
  (.seq (.reg [⟨none, some 5, (Op.buildSlice 42 0 #[])⟩,
      ⟨none, some 3, (Op.assign (Operand.tmp 5))⟩])
   (.seq (.seq (.reg [⟨none, some 4, (Op.assign (Operand.const (Value.int IntKind.i64 0)))⟩])
     (.block 0 (.loop ac36_l0)))
    (.seq (.reg [⟨none, some 34, (Op.move (Operand.tmp 3))⟩,
        ⟨none, some 2, (Op.assign (Operand.tmp 34))⟩])
     (.ret))))
theorem vc36 {args : List AV} {L : List (Nat × Ob)} {R : AV → List (Nat × Ob) → Prop} (ha : args.length ≤ 35) (hL : (L.map (·.1)).Nodup)
    (h : ev Go.Proofs.Tryd.prog ⟨35, L.map (·.1)⟩ ac36 (retQ Go.Proofs.Tryd.prog [(ResultVar.tmp 2)] R) ⟨argT args, hpOf L, Us.of (L.map (·.1))⟩) : ACall Go.Proofs.Tryd.prog 36 args L R :=
  acallA (by kernel_rfl) 35 [(6, [⟨0, [], [], [], [9, 10]⟩, ⟨1, [1], [], [], [8, 9, 10]⟩, ⟨2, [], [1], [], [3, 5, 6, 7, 8, 9, 10]⟩, ⟨3, [1], [1], [], [5, 6, 7, 8, 9, 10]⟩, ⟨4, [], [1], [], [5, 6, 7, 8, 9, 10]⟩, ⟨5, [], [1], [], [6, 7, 8, 9, 10]⟩, ⟨6, [], [1], [], [7, 8, 9, 10]⟩, ⟨7, [], [1], [], [8, 9, 10]⟩, ⟨8, [], [], [], [9, 10]⟩, ⟨9, [], [], [], [10]⟩, ⟨10, [], [], [], []⟩])] [(ResultVar.tmp 2)] Go.Proofs.Tryd.func36 (by kernel_rfl) Go.Proofs.Tryd.ntmps36 (by kernel_rfl) ha hL (va_of_ev _ h)
theorem en36 : enters Go.Proofs.Tryd.prog 36 = true := by kernel_rfl
/-- spec.DrawTreeAll -/
def ac34 : ACode :=
  .seq (.reg [⟨none, some 2, (Op.alloc 25)⟩])
  (.seq (.reg [⟨none, some 3, (Op.move (Operand.tmp 0))⟩,
      ⟨none, some 4, (Op.call ⟨(Callee.value (Operand.func 55)), #[(Operand.tmp 3)], #[22]⟩)⟩,
      ⟨none, some 5, (Op.call ⟨(Callee.value (Operand.func 56)), #[(Operand.tmp 4)], #[88]⟩)⟩,
      ⟨none, none, (Op.store 25 (Operand.tmp 2) (Operand.tmp 5))⟩])
   (.ret))
theorem vc34 {args : List AV} {L : List (Nat × Ob)} {R : AV → List (Nat × Ob) → Prop} (ha : args.length ≤ 6) (hL : (L.map (·.1)).Nodup)
    (h : ev Go.Proofs.Tryd.prog ⟨6, L.map (·.1)⟩ ac34 (retQ Go.Proofs.Tryd.prog [(ResultVar.cell 2 25)] R) ⟨argT args, hpOf L, Us.of (L.map (·.1))⟩) : ACall Go.Proofs.Tryd.prog 34 args L R :=
  acallA (by kernel_rfl) 6 [] [(ResultVar.cell 2 25)] Go.Proofs.Tryd.func34 (by kernel_rfl) Go.Proofs.Tryd.ntmps34 (by kernel_rfl) ha hL (va_of_ev _ h)
theorem en34 : enters Go.Proofs.Tryd.prog 34 = true := by kernel_rfl
def ac9_l0 : ACode :=
  .seq (.seq (.reg [⟨none, some 29, (Op.move (Operand.tmp 6))⟩,
      ⟨none, some 30, (Op.move (Operand.tmp 4))⟩,
      ⟨none, some 31, (Op.call ⟨(Callee.builtin Builtin.len), #[(Operand.tmp 30)], #[42]⟩)⟩,
      ⟨none, some 32, (Op.binOp BinOp.lss 3 (Operand.tmp 29) (Operand.tmp 31) 3)⟩])
   (.cond (Operand.tmp 32) (.skip) (.exit 0)))
  (.seq (.block 1 (.seq (.reg [⟨none, some 7, (Op.assign (Operand.const (Value.int IntKind.i64 0)))⟩])
     (.seq (.draw [⟨⟨none, some 36, (Op.load 25 (Operand.tmp 3))⟩, [3], [], []⟩,
         ⟨⟨none, some 37, (Op.move (Operand.tmp 4))⟩, [], [3], []⟩,
         ⟨⟨none, some 38, (Op.move (Operand.tmp 6))⟩, [], [3], []⟩,
         ⟨⟨none, some 39, (Op.indexAddr 42 (Operand.tmp 37) (Operand.tmp 38))⟩, [], [3], []⟩,
         ⟨⟨none, some 40, (Op.load 9 (Operand.tmp 39))⟩, [], [3], []⟩,
         ⟨⟨none, some 41, (Op.build 27 #[(0, (Operand.const (Value.int IntKind.i64 2))), (1, (Operand.tmp 40))])⟩, [], [3], []⟩,
         ⟨⟨none, some 42, (Op.call ⟨(Callee.value (Operand.func 16)), #[(Operand.tmp 36), (Operand.tmp 41)], #[25, 27]⟩)⟩, [], [], []⟩,
         ⟨⟨none, some 35, (Op.move (Operand.tmp 42))⟩, [], [], []⟩,
         ⟨⟨none, some 43, (Op.extract (Operand.tmp 35) 0)⟩, [], [], []⟩,
         ⟨⟨none, some 44, (Op.extract (Operand.tmp 35) 1)⟩, [], [], []⟩,
         ⟨⟨none, none, (Op.store 25 (Operand.tmp 3) (Operand.tmp 43))⟩, [], [], []⟩,
         ⟨⟨none, some 7, (Op.assign (Operand.tmp 44))⟩, [], [], []⟩])
      (.seq (.reg [⟨none, some 45, (Op.move (Operand.tmp 7))⟩,
          ⟨none, some 46, (Op.binOp BinOp.neq 3 (Operand.tmp 45) (Operand.const (Value.int IntKind.i64 0)) 3)⟩])
       (.cond (Operand.tmp 46) (.seq (.reg [⟨none, some 2, (Op.assign (Operand.const (Value.bool false)))⟩])
         (.ret)) (.skip))))))
   (.reg [⟨none, some 33, (Op.move (Operand.tmp 6))⟩,
      ⟨none, some 34, (Op.binOp BinOp.add 3 (Operand.tmp 33) (Operand.const (Value.int IntKind.i64 1)) 3)⟩,
      ⟨none, some 6, (Op.assign (Operand.tmp 34))⟩]))
/-- laws.FnTreeAll -/
def ac9 : ACode :=
  .seq (.reg [⟨none, some 2, (Op.assign (Operand.const (Value.bool false)))⟩])
  (.seq (.seq (.reg [⟨none, some 8, (Op.move (Operand.tmp 0))⟩,
       ⟨none, some 9, (Op.call ⟨(Callee.builtin Builtin.len), #[(Operand.tmp 8)], #[22]⟩)⟩,
       ⟨none, some 10, (Op.binOp BinOp.gtr 3 (Operand.tmp 9) (Operand.const (Value.int IntKind.i64 1048576)) 3)⟩])
    (.cond (Operand.tmp 10) (.seq (.reg [⟨none, some 2, (Op.assign (Operand.const (Value.bool true)))⟩])
      (.ret)) (.skip)))
   (.seq (.reg [⟨none, some 11, (Op.move (Operand.tmp 0))⟩,
       ⟨none, some 12, (Op.call ⟨(Callee.value (Operand.func 34)), #[(Operand.tmp 11)], #[22]⟩)⟩,
       ⟨none, some 3, (Op.alloc 25)⟩,
       ⟨none, none, (Op.store 25 (Operand.tmp 3) (Operand.tmp 12))⟩])
    (.seq (.reg [⟨none, some 13, (Op.load 25 (Operand.tmp 3))⟩,
        ⟨none, some 14, (Op.call ⟨(Callee.value (Operand.func 35)), #[(Operand.tmp 13)], #[25]⟩)⟩,
        ⟨none, some 4, (Op.assign (Operand.tmp 14))⟩])
     (.seq (.seq (.reg [⟨none, some 15, (Op.move (Operand.tmp 4))⟩,
          ⟨none, some 16, (Op.load 25 (Operand.tmp 3))⟩,
          ⟨none, some 17, (Op.call ⟨(Callee.value (Operand.func 36)), #[(Operand.tmp 16)], #[25]⟩)⟩,
          ⟨none, some 18, (Op.call ⟨(Callee.value (Operand.func 24)), #[(Operand.tmp 15), (Operand.tmp 17)], #[42, 42]⟩)⟩,
          ⟨none, some 19, (Op.unOp UnOp.not 4 (Operand.tmp 18))⟩])
       (.cond (Operand.tmp 19) (.seq (.reg [⟨none, some 2, (Op.assign (Operand.const (Value.bool false)))⟩])
         (.ret)) (.skip)))
      (.seq (.seq (.reg [⟨none, some 20, (Op.load 25 (Operand.tmp 3))⟩,
           ⟨none, some 21, (Op.call ⟨(Callee.value (Operand.func 18)), #[(Operand.tmp 20)], #[25]⟩)⟩,
           ⟨none, some 22, (Op.unOp UnOp.not 4 (Operand.tmp 21))⟩])
        (.cond (Operand.tmp 22) (.seq (.reg [⟨none, some 23, (Op.move (Operand.tmp 4))⟩,
             ⟨none, some 24, (Op.call ⟨(Callee.builtin Builtin.len), #[(Operand.tmp 23)], #[42]⟩)⟩,
             ⟨none, some 25, (Op.binOp BinOp.eql 3 (Operand.tmp 24) (Operand.const (Value.int IntKind.i64 0)) 3)⟩,
             ⟨none, some 2, (Op.assign (Operand.tmp 25))⟩])
          (.ret)) (.skip)))
       (.seq (.reg [⟨none, some 26, (Op.fieldAddr 25 (Operand.tmp 3) 0)⟩,
           ⟨none, some 27, (Op.load 23 (Operand.tmp 26))⟩,
           ⟨none, some 28, (Op.call ⟨(Callee.builtin Builtin.len), #[(Operand.tmp 27)], #[23]⟩)⟩,
           ⟨none, some 5, (Op.assign (Operand.tmp 28))⟩])
        (.seq (.seq (.reg [⟨none, some 6, (Op.assign (Operand.const (Value.int IntKind.i64 0)))⟩])
          (.block 0 (.loop ac9_l0)))
         (.seq (.reg [⟨none, some 47, (Op.move (Operand.tmp 4))⟩,
             ⟨none, some 48, (Op.call ⟨(Callee.builtin Builtin.len), #[(Operand.tmp 47)], #[42]⟩)⟩,
             ⟨none, some 49, (Op.move (Operand.tmp 5))⟩,
             ⟨none, some 50, (Op.binOp BinOp.eql 3 (Operand.tmp 48) (Operand.tmp 49) 3)⟩,
             ⟨none, some 51, (Op.move (Operand.tmp 50))⟩,
             ⟨some (51, true), some 52, (Op.fieldAddr 25 (Operand.tmp 3) 0)⟩,
             ⟨some (51, true), some 53, (Op.load 23 (Operand.tmp 52))⟩,
             ⟨some (51, true), some 54, (Op.call ⟨(Callee.builtin Builtin.len), #[(Operand.tmp 53)], #[23]⟩)⟩,
             ⟨some (51, true), some 55, (Op.binOp BinOp.eql 3 (Operand.tmp 54) (Operand.const (Value.int IntKind.i64 0)) 3)⟩,
             ⟨none, some 56, (Op.pick (Operand.tmp 51) (Operand.tmp 55) (Operand.const (Value.bool false)))⟩,
             ⟨none, some 2, (Op.assign (Operand.tmp 56))⟩])
          (.ret)))))))))
theorem vc9 {args : List AV} {L : List (Nat × Ob)} {R : AV → List (Nat × Ob) → Prop} (ha : args.length ≤ 57) (hL : (L.map (·.1)).Nodup)
    (h : ev Go.Proofs.Tryd.prog ⟨57, L.map (·.1)⟩ ac9 (retQ Go.Proofs.Tryd.prog [(ResultVar.tmp 2)] R) ⟨argT args, hpOf L, Us.of (L.map (·.1))⟩) : ACall Go.Proofs.Tryd.prog 9 args L R :=
  acallA (by kernel_rfl) 57 [(14, [⟨0, [3], [], [], [6, 7, 8, 9, 10, 11]⟩, ⟨1, [], [3], [], [3, 4, 5, 6, 7, 8, 9, 10, 11]⟩, ⟨2, [], [3], [], [3, 4, 5, 6, 7, 8, 9, 10, 11]⟩, ⟨3, [], [3], [], [4, 5, 6, 7, 8, 9, 10, 11]⟩, ⟨4, [], [3], [], [5, 6, 7, 8, 9, 10, 11]⟩, ⟨5, [], [3], [], [6, 7, 8, 9, 10, 11]⟩, ⟨6, [], [], [], [7, 8, 9, 10, 11]⟩, ⟨7, [], [], [], [8, 9, 10, 11]⟩, ⟨8, [], [], [], [10, 11]⟩, ⟨9, [], [], [], [11]⟩, ⟨10, [], [], [], [11]⟩, ⟨11, [], [], [], []⟩])] [(ResultVar.tmp 2)] Go.Proofs.Tryd.func9 (by kernel_rfl) Go.Proofs.Tryd.ntmps9 (by kernel_rfl) ha hL (va_of_ev _ h)
theorem en9 : enters Go.Proofs.Tryd.prog 9 = true := by kernel_rfl
end Go.Av.F
end

section
namespace Go.Av.F
open Go Go.Av
set_option linter.unusedSimpArgs false
set_option linter.unusedVariables false
set_option maxRecDepth 100000
attribute [local simp] tt3 tt4 tt9 tt5 tt22 tt25 tt23 tt35 tt33 tt27 tt42 tt54
attribute [local simp] renL_strc take_str

def underB (b : List BS) : Nat → List UInt8 → List (List UInt8)
  | 0, x => [x]
  | n + 1, x => (kidsB b x).flatMap (underB b n) ++ [x]

theorem flat_len {α β : Type} (f : α → List β) (c : Nat) : ∀ l : List α, (∀ x ∈ l, (f x).length ≤ c) → (l.flatMap f).length ≤ l.length * c
  | [], _ => by simp
  | a :: r, h => by
    have h1 := h a (by simp)
    have h2 := flat_len f c r fun x hx => h x (List.mem_cons_of_mem _ hx)
    simp only [List.flatMap_cons, List.length_append, List.length_cons, Nat.add_mul, Nat.one_mul]
    omega

theorem under_len {b : List BS} (hl : b.length ≤ 6) : ∀ (n : Nat) (x : List UInt8), (underB b n x).length ≤ 8 ^ n
  | 0, x => by simp [underB]
  | n + 1, x => by
    have h1 := flat_len (underB b n) (8 ^ n) (kidsB b x) fun y _ => under_len hl n y
    have h2 := kids_len b x
    have h3 : (kidsB b x).length * 8 ^ n ≤ 6 * 8 ^ n := Nat.mul_le_mul_right _ (by omega)
    have h4 : 0 < 8 ^ n := Nat.pow_pos (by omega)
    simp only [underB, List.length_append, List.length_singleton, Nat.pow_succ]
    omega
theorem pow_small {n : Nat} (h : n ≤ 6) : 8 ^ n ≤ 262144 := Nat.le_trans (Nat.pow_le_pow_right (by omega) h) (by decide)

/-- How far a set is from its root. -/
inductive Rk (b : List BS) : Nat → BS → Prop
  | root (s : BS) : s.frm = [] → Rk b 0 s
  | step (d : Nat) (s t : BS) : s.frm ≠ [] → t ∈ b → t.name = s.frm → Rk b d t → Rk b (d + 1) s

theorem rk_roots {b : List BS} (hS : Srt b) {d : Nat} {s : BS} (h : Rk b d s) : ∀ n, roots b n s = true → d < n := by
  induction h with
  | root s hs =>
    intro n hn
    cases n with
    | zero => simp [roots] at hn
    | succ n => omega
  | step d s t hs ht htn _ ih =>
    intro n hn
    cases n with
    | zero => simp [roots] at hn
    | succ n =>
      obtain ⟨e1, e2⟩ := at_mem hS ht
      rw [htn] at e1 e2
      simp only [roots, hs, if_false, e1, e2, true_and] at hn
      split at hn
      · have := ih n hn; omega
      · cases hn
theorem rk_lt {b : List BS} (hO : Ok b) {d : Nat} {s : BS} (hs : s ∈ b) (h : Rk b d s) : d < b.length := by
  have hS := pw_srt hO.2.1
  obtain ⟨n, hn⟩ := rt_roots hS (hO.2.2 s hs).2
  have h1 := roots_any hs hn
  rw [← roots_len b s hs] at h1
  exact rk_roots hS h _ h1

theorem kids_mem {b : List BS} {x y : List UInt8} (h : y ∈ kidsB b x) : ∃ s ∈ b, s.name = y ∧ s.frm = x := by
  unfold kidsB at h
  simp only [List.mem_map, List.mem_filter, beq_iff_eq] at h
  obtain ⟨s, ⟨h1, h2⟩, h3⟩ := h
  exact ⟨s, h1, h3, h2⟩

theorem strs_oneA (l : List (List UInt8)) : (l.map strRow).all (fun r => r.all oneA) = true := by
  rw [List.all_map, List.all_eq_true]
  intro x _
  rfl

def accB (ks : List (List UInt8)) (f : List UInt8 → List (List UInt8)) (i : Nat) : List (List UInt8) := (ks.take i).flatMap f
theorem acc_zero (ks : List (List UInt8)) (f : List UInt8 → List (List UInt8)) : accB ks f 0 = [] := rfl
theorem acc_all (ks : List (List UInt8)) (f : List UInt8 → List (List UInt8)) : accB ks f ks.length = ks.flatMap f := by simp [accB]
def udSt (b : List BS) (name : List UInt8) (ks : List (List UInt8)) (f : List UInt8 → List (List UInt8)) (i : Nat) : S :=
  ⟨mkT [(1, .str name), (2, .ptr 2 0 0), (5, .sl 5 0 (accB ks f i).length), (10, .lst 1 (ks.map strRow)), (11, .int .i64 ks.length), (12, .int .i64 i)], hpOf [(2, ⟨1, [[.lst 11 (b.map BS.row)]]⟩), (5, strOb (accB ks f i))], Us.of [2, 5]⟩

theorem flat_step {ks : List (List UInt8)} {i : Nat} {k : List UInt8} (h : ks[i]? = some k) (f : List UInt8 → List (List UInt8)) : accB ks f (i + 1) = accB ks f i ++ f k := by
  unfold accB
  rw [List.take_add_one, h]; simp

theorem underC (b : List BS) (hO : Ok b) (hb : BkG b) : ∀ (m d : Nat) (s : BS), s ∈ b → Rk b d s → b.length ≤ d + m → m ≤ 6 →
    ACall Go.Proofs.Tryd.prog 92 [bk b, .str s.name] [] (txP (underB b m s.name))
  | 0, d, s, hs, hr, hm, _ => by have := rk_lt hO hs hr; omega
  | m + 1, d, s, hs, hr, hm, hm6 => by
    have hl6 := hO.1
    have hkl := kids_len b s.name
    have hsm : ∀ i, (accB (kidsB b s.name) (underB b m) i).length ≤ 2000000 := by
      intro i
      unfold accB
      have h1 := flat_len (underB b m) 262144 ((kidsB b s.name).take i) fun y _ => Nat.le_trans (under_len hl6 m y) (pow_small (by omega))
      have h2 : ((kidsB b s.name).take i).length ≤ 6 := by simp; omega
      have h3 : ((kidsB b s.name).take i).length * 262144 ≤ 6 * 262144 := Nat.mul_le_mul_right _ h2
      omega
    refine txP_of (id := 25) ?_
    apply vc92 (by simp) (by simp)
    simp [ac92, bk]
    refine callA_val en74 (txP_of (kidsC b s.name hb (by omega))) (by simp [bk]) (by simp) ?_
    obtain ⟨ks, hks⟩ : ∃ ks, kidsB b s.name = ks := ⟨_, rfl⟩
    have hkm : ∀ k ∈ ks, ∃ t ∈ b, t.name = k ∧ t.frm = s.name := fun k hk => kids_mem (hks ▸ hk)
    simp only [underB]
    rw [hks] at hsm hkl ⊢
    rw [← acc_all]
    simp
    refine ev_loopW (X := Nat) (udSt b s.name ks (underB b m)) (fun i => ks.length - i) (fun i => i ≤ ks.length) 0 ⟨by simp, ?_⟩ ?_
    · exact (sw_ph 5 1 (by simp) (by simp)).trans (sw_can [1, 2, 5, 10, 11, 12] [(2, 2), (5, 5)] (by simp [canonOk]) (by simp [canon, obOf, udSt, strOb, acc_zero]))
    intro i hi
    by_cases h1 : i < ks.length
    · obtain ⟨k, e0⟩ : ∃ k, ks[i] = k := ⟨_, rfl⟩
      have e1 : ks[i]? = some k := by rw [← e0]; exact List.getElem?_eq_getElem (by omega)
      have e2 : IntKind.i64.wrap ((i : Int) + 1) = ((i + 1 : Nat) : Int) := by rw [i64_in' _ (by omega)]; omega
      obtain ⟨t, ht, htn, htf⟩ := hkm k (List.mem_of_getElem? e1)
      have hst := flat_step e1 (underB b m)
      have hs1 := hsm (i + 1)
      rw [hst, List.length_append] at hs1
      simp [ac92_l0, udSt, h1, e0, e1, strRow]
      refine callA_val en92 (htn ▸ underC b hO hb m (d + 1) t ht (.step d t s (by rw [htf]; exact name_ne (hO.2.2 s hs).1.1) hs htf.symm hr) (by omega) (by omega)) (by simp [bk]) (by simp) ?_
      simp [e2]
      refine ⟨⟨by simp [strOb], by omega, fun x _ y hy => by simp only [strRow, List.mem_singleton] at hy; subst hy; rfl⟩, ?_⟩
      exact nextW_of (i + 1) (by omega) (by omega) (sw_can [1, 2, 5, 10, 11, 12] [(2, 2), (20, 5)] (by simp [canonOk]) (by simp [canon, obOf, udSt, strOb, hst, e2]))
    · have : i = ks.length := by omega
      subst this
      have := hsm ks.length
      simp [ac92_l0, udSt]
      exact ⟨⟨by simp [strOb], by omega⟩, by simp [strOb, strRow]⟩
end Go.Av.F
end

section
namespace Go.Av.F
open Go Go.Av
set_option linter.unusedSimpArgs false
set_option linter.unusedVariables false
set_option maxRecDepth 100000
attribute [local simp] tt3 tt4 tt9 tt5 tt22 tt25 tt23 tt35 tt33 tt27 tt42 tt54
attribute [local simp] renL_strc take_str

def suSt (b : List BS) (name : List UInt8) (ks : List (List UInt8)) (f : List UInt8 → List (List UInt8)) (m : Int) (i : Nat) : S :=
  ⟨mkT [(1, .str name), (2, .int .i64 m), (3, .ptr 3 0 0), (7, .sl 7 0 (accB ks f i).length), (8, .lst 1 (ks.map strRow)), (9, .int .i64 i)], hpOf [(3, ⟨1, [[.lst 11 (b.map BS.row)]]⟩), (7, strOb (accB ks f i))], Us.of [3, 7]⟩

theorem sunderC (b : List BS) (hO : Ok b) (hb : BkG b) : ∀ (m : Nat) (name : List UInt8), name ≠ [] → m ≤ 6 →
    ACall Go.Proofs.Tryd.prog 159 [bk b, .str name, .int .i64 m] [] (txP (underB b m name))
  | 0, name, hn, _ => by
    have hl6 := hO.1
    refine txP_of (id := 37) ?_
    apply vc159 (by simp) (by simp)
    simp [ac159, bk]
    refine callA_val en25 (specKidsC b name hb (by omega)) (by simp [bk]) (by simp) ?_
    simp
    refine ev_loopX (X := Unit) [1, 2, 3, 7, 8, 9] (fun _ => suSt b name (kidsR b name) (fun _ => []) 0 0) (fun _ => 0) (fun _ => True) () ⟨trivial, [(3, 3), (10, 7)], by simp [canonOk], by simp [canon, obOf, suSt, strOb, acc_zero]⟩ ?_
    rintro _ _
    by_cases hz : (kidsR b name).length = 0
    · simp [ac159_l0, suSt, hz, acc_zero, strOb, underB, strRow]
    · simp [ac159_l0, suSt, hz, acc_zero, strOb, underB, strRow]
  | m + 1, name, hn, hm6 => by
    have hl6 := hO.1
    have hkl := kids_len b name
    have hkr : kidsR b name = kidsB b name := by unfold kidsR; rw [if_pos ⟨(ok_ok hO).2, hn⟩]
    have hsm : ∀ i, (accB (kidsB b name) (underB b m) i).length ≤ 2000000 := by
      intro i
      unfold accB
      have h1 := flat_len (underB b m) 262144 ((kidsB b name).take i) fun y _ => Nat.le_trans (under_len hl6 m y) (pow_small (by omega))
      have h2 : ((kidsB b name).take i).length ≤ 6 := by simp; omega
      have h3 : ((kidsB b name).take i).length * 262144 ≤ 6 * 262144 := Nat.mul_le_mul_right _ h2
      omega
    refine txP_of (id := 37) ?_
    apply vc159 (by simp) (by simp)
    simp [ac159, bk]
    refine callA_val en25 (specKidsC b name hb (by omega)) (by simp [bk]) (by simp) ?_
    rw [hkr]
    obtain ⟨ks, hks⟩ : ∃ ks, kidsB b name = ks := ⟨_, rfl⟩
    have hkm : ∀ k ∈ ks, ∃ t ∈ b, t.name = k ∧ t.frm = name := fun k hk => kids_mem (hks ▸ hk)
    simp only [underB]
    rw [hks] at hsm hkl ⊢
    rw [← acc_all]
    simp
    refine ev_loopW (X := Nat) (suSt b name ks (underB b m) ((m + 1 : Nat) : Int)) (fun i => ks.length - i) (fun i => i ≤ ks.length) 0 ⟨by simp, ?_⟩ ?_
    · exact sw_can [1, 2, 3, 7, 8, 9] [(3, 3), (10, 7)] (by simp [canonOk]) (by simp [canon, obOf, suSt, strOb, acc_zero])
    intro i hi
    have hmp : (0 : Int) < (m : Int) + 1 := by omega
    by_cases h1 : i < ks.length
    · obtain ⟨k, e0⟩ : ∃ k, ks[i] = k := ⟨_, rfl⟩
      have e1 : ks[i]? = some k := by rw [← e0]; exact List.getElem?_eq_getElem (by omega)
      have e2 : IntKind.i64.wrap ((i : Int) + 1) = ((i + 1 : Nat) : Int) := by rw [i64_in' _ (by omega)]; omega
      have e3 : IntKind.i64.wrap (m : Int) = (m : Int) := i64_in' _ (by omega)
      obtain ⟨t, ht, htn, htf⟩ := hkm k (List.mem_of_getElem? e1)
      have hst := flat_step e1 (underB b m)
      have hs1 := hsm (i + 1)
      rw [hst, List.length_append] at hs1
      simp [ac159_l0, suSt, h1, e0, e1, strRow, hmp, e3]
      refine callA_val en159 (sunderC b hO hb m k (htn ▸ name_ne (hO.2.2 t ht).1.1) (by omega)) (by simp [bk]) (by simp) ?_
      simp [e2]
      refine ⟨⟨by simp [strOb], by omega, fun x _ y hy => by simp only [strRow, List.mem_singleton] at hy; subst hy; rfl⟩, ?_⟩
      exact nextW_of (i + 1) (by omega) (by omega) (sw_can [1, 2, 3, 7, 8, 9] [(3, 3), (33, 7)] (by simp [canonOk]) (by simp [canon, obOf, suSt, strOb, hst, e2]))
    · have : i = ks.length := by omega
      subst this
      have := hsm ks.length
      simp [ac159_l0, suSt]
      exact ⟨⟨by simp [strOb], by omega⟩, by simp [strOb, strRow]⟩

theorem streeC (b : List BS) (hO : Ok b) (hb : BkG b) (s : BS) (hs : s ∈ b) : ACall Go.Proofs.Tryd.prog 93 [bk b, .str s.name] [] (txP (underB b b.length s.name)) := by
  have hl6 := hO.1
  have hat := (at_mem (pw_srt hO.2.1) hs).2
  apply vc93 (by simp) (by simp)
  simp [ac93, bk]
  refine callA_val en125 (atC b s.name (by omega)) (by simp [bk]) (by simp) ?_
  simp [hat]
  refine callA_val en18 (specOkC b hb (by omega)) (by simp [bk]) (by simp) ?_
  simp [(ok_ok hO).2, hat]
  refine callA_val en159 (sunderC b hO hb b.length s.name (name_ne (hO.2.2 s hs).1.1) hl6) (by simp [bk]) (by simp) ?_
  simp [txP]

def allB (b : List BS) : List (List UInt8) := if bookOkB b = true then (kidsB b []).flatMap (underB b b.length) else []

def iaSt (b : List BS) (ks : List (List UInt8)) (f : List UInt8 → List (List UInt8)) (i : Nat) : S :=
  ⟨mkT [(1, .ptr 1 0 0), (3, .sl 3 0 (accB ks f i).length), (10, .lst 1 (ks.map strRow)), (11, .int .i64 ks.length), (12, .int .i64 i)], hpOf [(1, ⟨1, [[.lst 11 (b.map BS.row)]]⟩), (3, strOb (accB ks f i))], Us.of [1, 3]⟩

theorem iallC (b : List BS) (hb : BkG b) (hbl : b.length < 100000) : ACall Go.Proofs.Tryd.prog 35 [bk b] [] (txP (allB b)) := by
  cases hok : bookOkB b with
  | false =>
    have key : ACall Go.Proofs.Tryd.prog 35 [bk b] [] (fun r L' => r = .nils ∧ L' = []) := by
      apply vc35 (by simp) (by simp)
      simp [ac35, bk]
      refine callA_val en21 (implOkC b hb hbl) (by simp [bk]) (by simp) ?_
      simp [hok]
    refine key.imp ?_
    rintro r L' ⟨rfl, rfl⟩
    exact ⟨_, impA_nils 1, by unfold allB; rw [if_neg (by simp [hok])]; rfl, rfl⟩
  | true =>
    have hO := okB_iff.1 hok
    have hl6 := hO.1
    have hkl := kids_len b []
    have hsm : ∀ i, (accB (kidsB b []) (underB b b.length) i).length ≤ 2000000 := by
      intro i
      unfold accB
      have h1 := flat_len (underB b b.length) 262144 ((kidsB b []).take i) fun y _ => Nat.le_trans (under_len hl6 b.length y) (pow_small hl6)
      have h2 : ((kidsB b []).take i).length ≤ 6 := by simp; omega
      have h3 : ((kidsB b []).take i).length * 262144 ≤ 6 * 262144 := Nat.mul_le_mul_right _ h2
      omega
    refine txP_of (id := 3) ?_
    apply vc35 (by simp) (by simp)
    simp [ac35, bk]
    refine callA_val en21 (implOkC b hb hbl) (by simp [bk]) (by simp) ?_
    simp [hok]
    refine callA_val en74 (txP_of (kidsC b [] hb (by omega))) (by simp [bk]) (by simp) ?_
    obtain ⟨ks, hks⟩ : ∃ ks, kidsB b [] = ks := ⟨_, rfl⟩
    have hkm : ∀ k ∈ ks, ∃ t ∈ b, t.name = k ∧ t.frm = [] := fun k hk => kids_mem (hks ▸ hk)
    have hall : allB b = accB ks (underB b b.length) ks.length := by unfold allB; rw [if_pos hok, hks, acc_all]
    rw [hall]
    rw [hks] at hsm hkl ⊢
    simp
    refine ev_loopW (X := Nat) (iaSt b ks (underB b b.length)) (fun i => ks.length - i) (fun i => i ≤ ks.length) 0 ⟨by simp, ?_⟩ ?_
    · exact (sw_ph 3 1 (by simp) (by simp)).trans (sw_can [1, 3, 10, 11, 12] [(1, 1), (3, 3)] (by simp [canonOk]) (by simp [canon, obOf, iaSt, strOb, acc_zero]))
    intro i hi
    by_cases h1 : i < ks.length
    · obtain ⟨k, e0⟩ : ∃ k, ks[i] = k := ⟨_, rfl⟩
      have e1 : ks[i]? = some k := by rw [← e0]; exact List.getElem?_eq_getElem (by omega)
      have e2 : IntKind.i64.wrap ((i : Int) + 1) = ((i + 1 : Nat) : Int) := by rw [i64_in' _ (by omega)]; omega
      obtain ⟨t, ht, htn, htf⟩ := hkm k (List.mem_of_getElem? e1)
      have hst := flat_step e1 (underB b b.length)
      have hs1 := hsm (i + 1)
      rw [hst, List.length_append] at hs1
      simp [ac35_l0, iaSt, h1, e0, e1, strRow]
      refine callA_val en92 (htn ▸ underC b hO hb b.length 0 t ht (.root t htf) (by omega) hl6) (by simp [bk]) (by simp) ?_
      simp [e2]
      refine ⟨⟨by simp [strOb], by omega, fun x _ y hy => by simp only [strRow, List.mem_singleton] at hy; subst hy; rfl⟩, ?_⟩
      exact nextW_of (i + 1) (by omega) (by omega) (sw_can [1, 3, 10, 11, 12] [(1, 1), (20, 3)] (by simp [canonOk]) (by simp [canon, obOf, iaSt, strOb, hst, e2]))
    · have : i = ks.length := by omega
      subst this
      simp [ac35_l0, iaSt]

end Go.Av.F
end

section
namespace Go.Av.F
open Go Go.Av
set_option linter.unusedSimpArgs false
set_option linter.unusedVariables false

/-! ### The order in which all sets can be killed -/
inductive Dn (b : List BS) (x : List UInt8) : List UInt8 → Prop
  | self : Dn b x x
  | kid (s : BS) : s ∈ b → Dn b x s.frm → Dn b x s.name

theorem Dn.trans {b : List BS} {x y z : List UInt8} (h : Dn b x y) (k : Dn b y z) : Dn b x z := by
  induction k with
  | self => exact h
  | kid s hs _ ih => exact .kid s hs ih

theorem dn_head {b : List BS} {x y : List UInt8} (h : Dn b x y) : y = x ∨ ∃ s ∈ b, s.frm = x ∧ Dn b s.name y := by
  induction h with
  | self => exact .inl rfl
  | kid s hs _ ih =>
    rcases ih with h | ⟨k, hk, hkf, hd⟩
    · exact .inr ⟨s, hs, h, .self⟩
    · exact .inr ⟨k, hk, hkf, .kid s hs hd⟩

theorem kids_of {b : List BS} {s : BS} (hs : s ∈ b) : s.name ∈ kidsB b s.frm := by
  unfold kidsB
  exact List.mem_map.2 ⟨s, List.mem_filter.2 ⟨hs, by simp⟩, rfl⟩

theorem under_self (b : List BS) (m : Nat) (x : List UInt8) : x ∈ underB b m x := by
  cases m <;> simp [underB]

theorem under_dn {b : List BS} : ∀ (m : Nat) (x y : List UInt8), y ∈ underB b m x → Dn b x y
  | 0, x, y, h => by simp [underB] at h; subst h; exact .self
  | m + 1, x, y, h => by
    simp only [underB, List.mem_append, List.mem_flatMap, List.mem_singleton] at h
    rcases h with ⟨k, hk, hy⟩ | rfl
    · obtain ⟨s, hs, rfl, hf⟩ := kids_mem hk
      exact Dn.trans (.kid s hs (hf ▸ .self)) (under_dn m s.name y hy)
    · exact .self

theorem rk_ex {b : List BS} {s : BS} (h : Rt b s) : ∃ d, Rk b d s := by
  induction h with
  | root s h1 h2 => exact ⟨0, .root s h1⟩
  | step s t h1 h2 h3 h4 _ ih =>
    obtain ⟨d, hd⟩ := ih
    exact ⟨d + 1, .step d s t h1 h2 h3 hd⟩

theorem rk_uniq {b : List BS} (hS : Srt b) {d : Nat} {s : BS} (h : Rk b d s) : ∀ {d' : Nat}, Rk b d' s → d' = d := by
  induction h with
  | root s h =>
    intro d' h'
    cases h' with
    | root _ _ => rfl
    | step _ _ _ h1 => exact absurd h h1
  | step d s t h1 h2 h3 _ ih =>
    intro d' h'
    cases h' with
    | root _ h => exact absurd h h1
    | step d'' _ t' h1' h2' h3' h4' =>
      have : t' = t := mem_inj hS h2' h2 (h3'.trans h3.symm)
      subst this
      rw [ih h4']

theorem under_all {b : List BS} (hO : Ok b) : ∀ (m d : Nat) (s : BS), s ∈ b → Rk b d s → b.length ≤ d + m → ∀ y, Dn b s.name y → y ∈ underB b m s.name
  | 0, d, s, hs, hr, hm, y, h => by have := rk_lt hO hs hr; omega
  | m + 1, d, s, hs, hr, hm, y, h => by
    simp only [underB, List.mem_append, List.mem_flatMap, List.mem_singleton]
    rcases dn_head h with rfl | ⟨k, hk, hkf, hd⟩
    · exact .inr rfl
    · refine .inl ⟨k.name, by rw [← hkf]; exact kids_of hk, ?_⟩
      exact under_all hO m (d + 1) k hk (.step d k s (by rw [hkf]; exact name_ne (hO.2.2 s hs).1.1) hs hkf.symm hr) (by omega) y hd

/-- The way up. -/
inductive Up (b : List BS) : Nat → BS → BS → Prop
  | zero (s : BS) : Up b 0 s s
  | succ (j : Nat) (s p t : BS) : p ∈ b → p.name = s.frm → s.frm ≠ [] → Up b j p t → Up b (j + 1) s t

theorem up_uniq {b : List BS} (hS : Srt b) {j : Nat} {s t : BS} (h : Up b j s t) : ∀ {t' : BS}, Up b j s t' → t' = t := by
  induction h with
  | zero s => intro t' h'; cases h'; rfl
  | succ j s p t h1 h2 h3 _ ih =>
    intro t' h'
    cases h' with
    | succ _ _ p' _ h1' h2' h3' h4' =>
      have : p' = p := mem_inj hS h1' h1 (h2'.trans h2.symm)
      subst this
      exact ih h4'

theorem up_rk {b : List BS} {j : Nat} {s t : BS} (h : Up b j s t) : ∀ {d : Nat}, Rk b d t → Rk b (d + j) s := by
  induction h with
  | zero s => intro d hd; exact hd
  | succ j s p t h1 h2 h3 _ ih => intro d hd; exact .step (d + j) s p h3 h1 h2 (ih hd)

theorem dn_up {b : List BS} (hO : Ok b) {t : BS} (ht : t ∈ b) {y : List UInt8} (h : Dn b t.name y) : ∃ s ∈ b, s.name = y ∧ ∃ j, Up b j s t := by
  generalize hx : t.name = x at h
  induction h with
  | self => exact ⟨t, ht, hx, 0, .zero t⟩
  | kid s hs _ ih =>
    obtain ⟨p, hp, hpn, j, hj⟩ := ih
    exact ⟨s, hs, rfl, j + 1, .succ j s p t hp hpn (by rw [← hpn]; exact name_ne (hO.2.2 p hp).1.1) hj⟩

theorem dn_same {b : List BS} (hO : Ok b) {t1 t2 : BS} (h1 : t1 ∈ b) (h2 : t2 ∈ b) {d : Nat} (r1 : Rk b d t1) (r2 : Rk b d t2) {y : List UInt8} (k1 : Dn b t1.name y) (k2 : Dn b t2.name y) : t1 = t2 := by
  have hS := pw_srt hO.2.1
  obtain ⟨s1, hs1, e1, j1, u1⟩ := dn_up hO h1 k1
  obtain ⟨s2, hs2, e2, j2, u2⟩ := dn_up hO h2 k2
  have : s1 = s2 := mem_inj hS hs1 hs2 (e1.trans e2.symm)
  subst this
  have hj := rk_uniq hS (up_rk u1 r1) (up_rk u2 r2)
  have : j1 = j2 := by omega
  subst this
  exact up_uniq hS u2 u1

theorem dn_not {b : List BS} (hO : Ok b) {t k : BS} (ht : t ∈ b) (hk : k ∈ b) {d : Nat} (r1 : Rk b d t) (r2 : Rk b (d + 1) k) : ¬ Dn b k.name t.name := fun h => by
  have hS := pw_srt hO.2.1
  obtain ⟨s, hs, e, j, u⟩ := dn_up hO hk h
  have : s = t := mem_inj hS hs ht e
  subst this
  have := rk_uniq hS r1 (up_rk u r2)
  omega

/-- A list that can be killed behind 'A'. -/
def Ord (b : List BS) : List (List UInt8) → List (List UInt8) → Prop
  | _, [] => True
  | A, x :: r => (∃ t ∈ b, t.name = x) ∧ x ∉ A ∧ (∀ s ∈ b, s.frm = x → s.name ∈ A) ∧ Ord b (A ++ [x]) r

theorem ord_app {b : List BS} : ∀ (L1 L2 A : List (List UInt8)), Ord b A L1 → Ord b (A ++ L1) L2 → Ord b A (L1 ++ L2)
  | [], L2, A, _, h => by simpa using h
  | x :: r, L2, A, h1, h2 => by
    obtain ⟨g1, g2, g3, g4⟩ := h1
    exact ⟨g1, g2, g3, ord_app r L2 (A ++ [x]) g4 (by simpa using h2)⟩

theorem ord_flat {b : List BS} (hO : Ok b) {m d : Nat} (ih : ∀ (s : BS) (A : List (List UInt8)), s ∈ b → Rk b d s → (∀ y, Dn b s.name y → y ∉ A) → Ord b A (underB b m s.name)) :
    ∀ (ks A : List (List UInt8)), ks.Nodup → (∀ k ∈ ks, ∃ t ∈ b, t.name = k ∧ Rk b d t) → (∀ k ∈ ks, ∀ y, Dn b k y → y ∉ A) → Ord b A (ks.flatMap (underB b m))
  | [], A, _, _, _ => trivial
  | k :: r, A, hn, hk, hA => by
    rw [List.nodup_cons] at hn
    obtain ⟨t, ht, htn, htr⟩ := hk k (by simp)
    rw [List.flatMap_cons]
    refine ord_app _ _ _ (htn ▸ ih t A ht htr fun y hy => hA k (by simp) y (htn ▸ hy)) (ord_flat hO ih r _ hn.2 (fun k' hk' => hk k' (List.mem_cons_of_mem _ hk')) fun k' hk' y hy => ?_)
    rw [List.mem_append]
    rintro (h | h)
    · exact hA k' (List.mem_cons_of_mem _ hk') y hy h
    · obtain ⟨t', ht', htn', htr'⟩ := hk k' (List.mem_cons_of_mem _ hk')
      have := dn_same hO ht ht' htr htr' (y := y) (by rw [htn]; exact under_dn m k y h) (by rw [htn']; exact hy)
      subst this
      rw [← htn'] at hk'
      rw [← htn] at hn
      exact hn.1 hk'

theorem kids_nodup {b : List BS} (hS : Srt b) (x : List UInt8) : (kidsB b x).Nodup := by
  unfold kidsB
  have h1 : Pw (b.filter fun s => s.frm == x) := List.Pairwise.filter _ (srt_pw hS)
  unfold List.Nodup
  rw [List.pairwise_map]
  refine List.Pairwise.imp ?_ h1
  intro a c h e
  rw [e, bl_irrefl] at h; cases h

theorem ord_under {b : List BS} (hO : Ok b) : ∀ (m d : Nat) (s : BS) (A : List (List UInt8)), s ∈ b → Rk b d s → b.length ≤ d + m → (∀ y, Dn b s.name y → y ∉ A) → Ord b A (underB b m s.name)
  | 0, d, s, A, hs, hr, hm, _ => by have := rk_lt hO hs hr; omega
  | m + 1, d, s, A, hs, hr, hm, hA => by
    have hS := pw_srt hO.2.1
    have hkr : ∀ k ∈ kidsB b s.name, ∃ t ∈ b, t.name = k ∧ Rk b (d + 1) t := fun k hk => by
      obtain ⟨t, ht, htn, htf⟩ := kids_mem hk
      exact ⟨t, ht, htn, .step d t s (by rw [htf]; exact name_ne (hO.2.2 s hs).1.1) hs htf.symm hr⟩
    have hkd : ∀ k ∈ kidsB b s.name, Dn b s.name k := fun k hk => by
      obtain ⟨t, ht, htn, htf⟩ := kids_mem hk
      rw [← htn]; exact .kid t ht (htf ▸ .self)
    simp only [underB]
    refine ord_app _ _ _ (ord_flat hO (fun t A' ht hr' h => ord_under hO m (d + 1) t A' ht hr' (by omega) h) _ _ (kids_nodup hS _) hkr fun k hk y hy => hA y ((hkd k hk).trans hy)) ⟨⟨s, hs, rfl⟩, ?_, fun t ht htf => ?_, trivial⟩
    · rw [List.mem_append]
      rintro (h | h)
      · exact hA _ .self h
      · obtain ⟨k, hk, hy⟩ := List.mem_flatMap.1 h
        obtain ⟨t, ht, htn, htr⟩ := hkr k hk
        exact dn_not hO hs ht hr htr (by rw [htn]; exact under_dn m k s.name hy)
    · rw [List.mem_append]
      refine .inr (List.mem_flatMap.2 ⟨t.name, by rw [← htf]; exact kids_of ht, under_self b m t.name⟩)

theorem all_ord {b : List BS} (hO : Ok b) : Ord b [] (allB b) := by
  unfold allB
  rw [if_pos (ok_ok hO).2]
  refine ord_flat hO (d := 0) (fun s A hs hr h => ord_under hO b.length 0 s A hs hr (by omega) h) _ _ (kids_nodup (pw_srt hO.2.1) _) (fun k hk => ?_) fun k hk y hy h => by simp at h
  obtain ⟨t, ht, htn, htf⟩ := kids_mem hk
  exact ⟨t, ht, htn, .root t htf⟩

theorem rt_top {b : List BS} {s : BS} (h : Rt b s) : s ∈ b → ∃ r ∈ b, r.frm = [] ∧ Dn b r.name s.name := by
  induction h with
  | root s h1 h2 => exact fun hs => ⟨s, hs, h1, .self⟩
  | step s t h1 h2 h3 h4 _ ih =>
    intro hs
    obtain ⟨r, hr, hrf, hd⟩ := ih h2
    exact ⟨r, hr, hrf, .kid s hs (h3 ▸ hd)⟩
theorem all_mem {b : List BS} (hO : Ok b) {s : BS} (hs : s ∈ b) : s.name ∈ allB b := by
  unfold allB
  rw [if_pos (ok_ok hO).2]
  obtain ⟨r, hr, hrf, hd⟩ := rt_top (hO.2.2 s hs).2 hs
  exact List.mem_flatMap.2 ⟨r.name, by rw [← hrf]; exact kids_of hr, under_all hO b.length 0 r hr (.root r hrf) (by omega) _ hd⟩

/-- What is left of a book. -/
def remB (b : List BS) (A : List (List UInt8)) : List BS := b.filter fun s => !A.contains s.name
theorem rem_mem {b : List BS} {A : List (List UInt8)} {s : BS} : s ∈ remB b A ↔ s ∈ b ∧ s.name ∉ A := by
  unfold remB; rw [List.mem_filter]; simp

theorem del_filter {c : List BS} (hS : Srt c) {k : Nat} {t : BS} (ht : c[k]? = some t) : c.take k ++ c.drop (k + 1) = c.filter fun s => !(s.name == t.name) := by
  obtain ⟨hk, hkt⟩ := List.getElem?_eq_some_iff.1 ht
  have e : c = c.take k ++ t :: c.drop (k + 1) := by rw [← hkt, List.getElem_cons_drop, List.take_append_drop]
  have h1 : (c.take k).filter (fun s => !(s.name == t.name)) = c.take k := by
    rw [List.filter_eq_self]
    intro s hs
    obtain ⟨i, hi, rfl⟩ := List.mem_iff_getElem.1 hs
    have hik : i < k := by simp at hi; omega
    have hil : i < c.length := by omega
    rw [List.getElem_take]
    cases hb : c[i].name == t.name with
    | false => rfl
    | true =>
      have := srt_inj hS (List.getElem?_eq_getElem hil) ht (by simpa using hb)
      omega
  have h2 : (c.drop (k + 1)).filter (fun s => !(s.name == t.name)) = c.drop (k + 1) := by
    rw [List.filter_eq_self]
    intro s hs
    obtain ⟨i, hi, rfl⟩ := List.mem_iff_getElem.1 hs
    have hil : k + 1 + i < c.length := by simp at hi; omega
    rw [List.getElem_drop]
    cases hb : c[k + 1 + i].name == t.name with
    | false => rfl
    | true =>
      have := srt_inj hS (List.getElem?_eq_getElem hil) ht (by simpa using hb)
      omega
  conv => rhs; rw [e]
  rw [List.filter_append, List.filter_cons, h1, h2]
  simp

theorem rem_step {b : List BS} {A : List (List UInt8)} (h : Ok (remB b A)) {x : List UInt8} (hx : ∃ t ∈ b, t.name = x) (hn : x ∉ A) (hk : ∀ s ∈ b, s.frm = x → s.name ∈ A) :
    resB (remB b A) (killO x) = (remB b (A ++ [x]), 0) ∧ Ok (remB b (A ++ [x])) ∧ (remB b (A ++ [x])).length + 1 = (remB b A).length := by
  have hS := pw_srt h.2.1
  obtain ⟨t, ht, rfl⟩ := hx
  obtain ⟨e1, e2⟩ := at_mem hS (rem_mem.2 ⟨ht, hn⟩)
  have hnf : ∀ s ∈ remB b A, s.frm ≠ t.name := fun s hs e => (rem_mem.1 hs).2 (hk s (rem_mem.1 hs).1 e)
  have hdel : (remB b A).take (atP (remB b A) t.name) ++ (remB b A).drop (atP (remB b A) t.name + 1) = remB b (A ++ [t.name]) := by
    rw [del_filter hS e1]
    unfold remB
    rw [List.filter_filter]
    congr 1
    funext s
    by_cases hc : s.name = t.name <;> by_cases ha : s.name ∈ A <;> simp [hc, ha]
  have hok := ok_del h e1 hnf
  rw [hdel] at hok
  refine ⟨?_, hok, ?_⟩
  · unfold resB
    rw [if_pos (ok_ok h).2, doB_kill h e1]
    unfold killB
    rw [e1]
    simp only
    rw [if_neg (by rw [List.any_eq_true]; rintro ⟨s, hs, he⟩; exact hnf s hs (by simpa using he)), hdel]
  · rw [← hdel]
    have := (List.getElem?_eq_some_iff.1 e1).1
    simp
    omega
end Go.Av.F
end

section
namespace Go.Av.F
open Go Go.Av
set_option linter.unusedSimpArgs false
set_option linter.unusedVariables false
set_option maxRecDepth 100000
attribute [local simp] tt3 tt4 tt9 tt5 tt22 tt25 tt23 tt35 tt33 tt27 tt42 tt54
attribute [local simp] renL_strc take_str

def saccB (b : List BS) (f : List UInt8 → List (List UInt8)) (i : Nat) : List (List UInt8) := (kidsB (b.take i) []).flatMap f
theorem sacc_zero (b : List BS) (f : List UInt8 → List (List UInt8)) : saccB b f 0 = [] := rfl
theorem sacc_step {b : List BS} {i : Nat} {s : BS} (h : b[i]? = some s) (f : List UInt8 → List (List UInt8)) : saccB b f (i + 1) = saccB b f i ++ (if s.frm = [] then f s.name else []) := by
  unfold saccB
  rw [kids_step h]
  split <;> simp

def saSt (b : List BS) (f : List UInt8 → List (List UInt8)) (i : Nat) : S :=
  ⟨mkT [(1, .ptr 1 0 0), (3, .sl 3 0 (saccB b f i).length), (4, .int .i64 i)], hpOf [(1, ⟨1, [[.lst 11 (b.map BS.row)]]⟩), (3, strOb (saccB b f i))], Us.of [1, 3]⟩

theorem sallC (b : List BS) (hb : BkG b) (hbl : b.length < 100000) : ACall Go.Proofs.Tryd.prog 36 [bk b] [] (txP (allB b)) := by
  refine txP_of (id := 3) ?_
  apply vc36 (by simp) (by simp)
  simp [ac36, bk]
  cases hok : bookOkB b with
  | false =>
    refine ev_loopX (X := Unit) [1, 3, 4] (fun _ => saSt b (fun _ => []) 0) (fun _ => 0) (fun _ => True) () ⟨trivial, [(1, 1), (5, 3)], by simp [canonOk], by simp [canon, obOf, saSt, strOb, sacc_zero]⟩ ?_
    rintro _ _
    simp [ac36_l0, saSt, sacc_zero, strOb]
    refine callA_val en18 (specOkC b hb hbl) (by simp [bk]) (by simp) ?_
    simp [hok, allB]
  | true =>
    have hO := okB_iff.1 hok
    have hl6 := hO.1
    have hsm : ∀ i, (saccB b (underB b b.length) i).length ≤ 2000000 := by
      intro i
      unfold saccB
      have h1 := flat_len (underB b b.length) 262144 (kidsB (b.take i) []) fun y _ => Nat.le_trans (under_len hl6 b.length y) (pow_small hl6)
      have h2 := kids_len (b.take i) []
      have h4 : (b.take i).length ≤ 6 := by simp; omega
      have h3 : (kidsB (b.take i) []).length * 262144 ≤ 6 * 262144 := Nat.mul_le_mul_right _ (by omega)
      omega
    refine ev_loopW (X := Nat) (saSt b (underB b b.length)) (fun i => b.length - i) (fun i => i ≤ b.length) 0 ⟨by simp, ?_⟩ ?_
    · exact sw_can [1, 3, 4] [(1, 1), (5, 3)] (by simp [canonOk]) (by simp [canon, obOf, saSt, strOb, sacc_zero])
    intro i hi
    simp [ac36_l0, saSt]
    refine callA_val en18 (specOkC b hb hbl) (by simp [bk]) (by simp) ?_
    by_cases h1 : i < b.length
    · obtain ⟨s, e0⟩ : ∃ s, b[i] = s := ⟨_, rfl⟩
      have e1 : b[i]? = some s := by rw [← e0]; exact List.getElem?_eq_getElem (by omega)
      have e2 : IntKind.i64.wrap ((i : Int) + 1) = ((i + 1 : Nat) : Int) := by rw [i64_in' _ (by omega)]; omega
      have hs := List.mem_of_getElem? e1
      have hs8 := (hb s hs).1
      have hst := sacc_step e1 (underB b b.length)
      have hs1 := hsm (i + 1)
      by_cases hf : s.frm = []
      · rw [hst, if_pos hf, List.length_append] at hs1
        rw [if_pos hf] at hst
        simp [hok, h1, e0, e1, row_len _ hs8, row_take _ hs8, hf]
        refine callA_val en93 (streeC b hO hb s hs) (by simp [bk]) (by simp) ?_
        simp [e2]
        refine ⟨⟨by simp [strOb], by omega, fun x _ y hy => by simp only [strRow, List.mem_singleton] at hy; subst hy; rfl⟩, ?_⟩
        exact nextW_of (i + 1) (by omega) (by omega) (sw_can [1, 3, 4] [(1, 1), (33, 3)] (by simp [canonOk]) (by simp [canon, obOf, saSt, strOb, hst, e2]))
      · rw [if_neg hf, List.append_nil] at hst
        simp [hok, h1, e0, e1, row_len _ hs8, row_take _ hs8, hf, e2]
        exact nextW_of (i + 1) (by omega) (by omega) (sw_can [1, 3, 4] [(1, 1), (3, 3)] (by simp [canonOk]) (by simp [canon, obOf, saSt, strOb, hst, e2]))
    · have : i = b.length := by omega
      subst this
      have : saccB b (underB b b.length) b.length = allB b := by unfold saccB allB; rw [if_pos hok, List.take_length]
      simp [hok, this]

def drawBk (r : AV) : Prop := ∃ b : List BS, BkG b ∧ b.length ≤ 100 ∧ r = bk b

theorem drawAllC (code : List UInt8) (hl : code.length < 4611686018427387904) : ACall Go.Proofs.Tryd.prog 34 [.lst 1 (code.map u8row)] [] (fun r L' => drawBk r ∧ clA r = true ∧ L' = []) := by
  have k1 : ACall Go.Proofs.Tryd.prog 34 [.lst 1 (code.map u8row)] [] (fun r L' => ∃ b : List BS, BkG b ∧ b.length ≤ 100 ∧ ((b = [] ∧ r = .agg [.nils] ∧ L' = []) ∨ ∃ id, r = .agg [.sl id 0 b.length] ∧ L' = [(id, bkOb b)])) := by
    apply vc34 (by simp) (by simp)
    have hb : (code.take 2000).length ≤ 2000 := by simp; omega
    simp [ac34]
    refine callA_wh [] en55 (openC code hl) (by simp) (by simp) (by simp) (by simp) (by simp) ?_
    rintro r L' ⟨rfl, rfl⟩
    refine ⟨[(10, 1000)], ⟨by simp, by simp, by simp, by simp, by simp⟩, ?_⟩
    generalize code.take 2000 = bs at hb
    simp
    refine callA_wh [(1000, .whole 1000)] en56 (bookC bs 0 (by omega) hb) (by simp) (by simp) (by simp) (by simp) (by simp) ?_
    rintro r L' ⟨q, b, h1, h2, h3, h4, ⟨rfl, rfl, rfl⟩ | ⟨id, hid, rfl, rfl⟩⟩
    · refine ⟨[], ⟨by simp, by simp, by simp, by simp, by simp⟩, ?_⟩
      simp
      exact ⟨[], by simp, [], h3, by simp, by simp⟩
    · rcases hid with rfl | rfl
      · refine ⟨[(69, 901)], ⟨by simp, by simp, by simp, by simp, by simp⟩, ?_⟩
        simp
        exact ⟨[(901, bkOb b)], by simp [bkOb], b, h3, h4, ⟨901, ⟨rfl, rfl⟩, rfl⟩⟩
      · refine ⟨[(901, 901)], ⟨by simp, by simp, by simp, by simp, by simp⟩, ?_⟩
        simp
        exact ⟨[(901, bkOb b)], by simp [bkOb], b, h3, h4, ⟨901, ⟨rfl, rfl⟩, rfl⟩⟩
  have k2 : ACall Go.Proofs.Tryd.prog 34 [.lst 1 (code.map u8row)] [] (fun r L' => ∃ (b : List BS) (id : Nat), BkG b ∧ b.length ≤ 100 ∧ r = .agg [.sl id 0 b.length] ∧ L' = [(id, bkOb b)]) := by
    refine k1.ph 901 11 (by simp) ?_
    rintro r L' ⟨b, h1, h2, ⟨rfl, rfl, rfl⟩ | ⟨id, rfl, rfl⟩⟩
    · exact .inr ⟨by simp, by simp, _, phs_agg1, [], 901, h1, h2, rfl, rfl⟩
    · exact .inl ⟨b, id, h1, h2, rfl, rfl⟩
  have k3 : ACall Go.Proofs.Tryd.prog 34 [.lst 1 (code.map u8row)] [] (fun r L' => drawBk r ∧ L' = []) := by
    refine k2.frz ?_
    rintro r L' ⟨b, id, h1, h2, rfl, rfl⟩
    exact ⟨id, bkOb b, rfl, clR_rows b, ⟨b, h1, h2, by simp [bk, bkOb]⟩, rfl⟩
  exact k3.mono fun r L' ⟨h1, h2⟩ => ⟨h1, by obtain ⟨b, _, _, rfl⟩ := h1; simp [bk], h2⟩

theorem rem_nil (b : List BS) : remB b [] = b := by
  unfold remB
  rw [List.filter_eq_self]
  intro s _; rfl
theorem loop9 {Q : Exit → S → Prop} (b : List BS) (n : Int) (hb : BkG b) (hbl : b.length ≤ 100) (hO : Ok b) {st : S}
    (h0 : ∃ φ, canonOk ⟨57, []⟩ φ st ∧ canon [] [3, 4, 5, 6] φ st = ⟨mkT [(3, .ptr 3 0 0), (4, .lst 1 ((allB b).map strRow)), (5, .int .i64 n), (6, .int .i64 (0 : Nat))], hpOf [(3, ⟨1, [[.lst 11 (b.map BS.row)]]⟩)], Us.of [3]⟩)
    (hex : ∀ st : S, (allB b).length = b.length → st.t 3 = .ptr 3 0 0 → st.t 4 = .lst 1 ((allB b).map strRow) → st.t 5 = .int .i64 n → st.h = hpOf [(3, ⟨1, [[.lst 11 []]]⟩)] → Q (.exit 0) st) :
    ev Go.Proofs.Tryd.prog ⟨57, []⟩ (.loop ac9_l0) Q st := by
  refine ev_loopX (X := Nat) [3, 4, 5, 6] (fun i => ⟨mkT [(3, .ptr 3 0 0), (4, .lst 1 ((allB b).map strRow)), (5, .int .i64 n), (6, .int .i64 i)], hpOf [(3, ⟨1, [[.lst 11 ((remB b ((allB b).take i)).map BS.row)]]⟩)], Us.of [3]⟩) (fun i => (allB b).length - i)
    (fun i => i ≤ (allB b).length ∧ Ok (remB b ((allB b).take i)) ∧ (remB b ((allB b).take i)).length + i = b.length ∧ Ord b ((allB b).take i) ((allB b).drop i)) 0 ⟨⟨by simp, ?_, ?_, ?_⟩, ?_⟩ ?_
  · simpa [rem_nil] using hO
  · simp [rem_nil]
  · simpa using all_ord hO
  · simpa [rem_nil] using h0
  rintro i ⟨hi, hOi, hli, hord⟩
  by_cases h1 : i < (allB b).length
  · obtain ⟨x, e0⟩ : ∃ x, (allB b)[i] = x := ⟨_, rfl⟩
    have e1 : (allB b)[i]? = some x := by rw [← e0]; exact List.getElem?_eq_getElem (by omega)
    have e2 : IntKind.i64.wrap ((i : Int) + 1) = ((i + 1 : Nat) : Int) := by rw [i64_in' _ (by omega)]; omega
    have hdr : (allB b).drop i = x :: (allB b).drop (i + 1) := by rw [List.drop_eq_getElem_cons h1, e0]
    have htk : (allB b).take (i + 1) = (allB b).take i ++ [x] := by rw [List.take_add_one, e1]; rfl
    rw [hdr] at hord
    obtain ⟨g1, g2, g3, g4⟩ := hord
    obtain ⟨k1, k2, k3⟩ := rem_step hOi g1 g2 g3
    rw [← htk] at k1 k2 k3 g4
    obtain ⟨t, ht, htn⟩ := g1
    have hxl : x.length ≤ 24 := htn ▸ (hb t ht).2.1
    have hbg : BkG (remB b ((allB b).take i)) := fun s hs => hb s (rem_mem.1 hs).1
    simp [ac9_l0, h1, e0, e1, strRow]
    refine callA_val en16 (implDoC (remB b ((allB b).take i)) (killO x) hbg (by omega) ⟨hxl, by simp [killO]⟩) (by simp [bk, BO.row, killO]) (by simp [bk]) ?_
    simp [bk, k1, e2]
    exact nextX_of (i + 1) (by omega) ⟨by omega, k2, by omega, g4⟩ [(3, 3)] (by simp [canonOk]) (by simp [canon, obOf, strRow])
  · have : i = (allB b).length := by omega
    subst this
    rw [List.take_length] at hli
    have hnil : remB b (allB b) = [] := by
      rw [List.eq_nil_iff_forall_not_mem]
      intro s hs
      exact (rem_mem.1 hs).2 (all_mem hO (rem_mem.1 hs).1)
    rw [hnil] at hli
    simp [ac9_l0]
    exact hex _ (by simpa using hli) rfl rfl rfl (by simp [hnil])

theorem ord_count {b : List BS} (hO : Ok b) : ∀ (L A : List (List UInt8)), Ok (remB b A) → Ord b A L → L.length ≤ (remB b A).length
  | [], A, _, _ => by simp
  | x :: r, A, h, ⟨g1, g2, g3, g4⟩ => by
    obtain ⟨k1, k2, k3⟩ := rem_step h g1 g2 g3
    have := ord_count hO r (A ++ [x]) k2 g4
    simp only [List.length_cons]; omega
theorem hcount (b : List BS) (hO : Ok b) : (allB b).length ≤ b.length := by
  have := ord_count hO (allB b) [] (by rw [rem_nil]; exact hO) (all_ord hO)
  rwa [rem_nil] at this
theorem fnTreeAllC (code : List UInt8) : ACall Go.Proofs.Tryd.prog 9 [.lst 1 (code.map u8row)] [] (fun r L' => r = .bool true ∧ L' = []) := by
  apply vc9 (by simp) (by simp)
  simp [ac9]
  intro h0
  refine callA_ex en34 (drawAllC code (by omega)) (by simp) ?_
  rintro r ⟨b, hb, hbl, rfl⟩
  simp [bk]
  refine callA_val en35 (iallC b hb (by omega)) (by simp [bk]) (by simp) ?_
  simp
  refine callA_val en36 (sallC b hb (by omega)) (by simp [bk]) (by simp) ?_
  simp
  have hal2 : (allB b).length < 1000000 := by
    unfold allB
    split
    · rename_i hok
      have hO := okB_iff.1 hok
      have h := hcount b hO
      unfold allB at h
      rw [if_pos hok] at h
      omega
    · simp
  refine callA_val en24 (textsC _ _ hal2 hal2) (by simp) (by simp) ?_
  simp
  refine callA_val en18 (specOkC b hb (by omega)) (by simp [bk]) (by simp) ?_
  cases hok : bookOkB b with
  | false => simp [allB, hok]
  | true =>
    have hO := okB_iff.1 hok
    simp
    refine loop9 b b.length hb hbl hO ⟨[(3, 3)], by simp [canonOk], by simp [canon, obOf]⟩ ?_
    rintro ⟨t0, h0, u0⟩ hlen f3 f4 f5 fh
    simp only at f3 f4 f5 fh
    subst fh
    simp [f3, f4, f5, hlen]
end Go.Av.F
end
