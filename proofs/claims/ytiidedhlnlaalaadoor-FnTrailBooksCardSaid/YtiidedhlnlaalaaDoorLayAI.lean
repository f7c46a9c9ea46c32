/- Lemmas for the proof, no statement of the seat: AvY2, AvY3, AvY4, AvY5, AvZ0, AvZ1, AvZ2, AvZ3, AvZ4; no conditions. -/
import Derived.Test.YtiidedhlnlaalaaDoorLayAH
import Derived.Test.YtiidedhlnlaalaaDoorProg
section
/- Functions of the program in the short form; printed by acgen.py. -/
namespace Go.Av.F
open Go Go.Av
set_option maxRecDepth 100000
set_option linter.constructorNameAsVariable false
/-- slices.Insert[[]impl.BookSet,impl.BookSet] -/
def ac177 : ACode :=
  .seq (.reg [⟨none, some 6, (Op.assign (Operand.const (Value.slice none 0 0)))⟩])
  (.seq (.reg [⟨none, some 10, (Op.move (Operand.tmp 0))⟩,
      ⟨none, some 11, (Op.move (Operand.tmp 1))⟩,
      ⟨none, some 12, (Op.slice 23 (Operand.tmp 10) (some (Operand.tmp 11)) none none)⟩])
   (.seq (.reg [⟨none, some 13, (Op.move (Operand.tmp 2))⟩,
       ⟨none, some 14, (Op.call ⟨(Callee.builtin Builtin.len), #[(Operand.tmp 13)], #[23]⟩)⟩,
       ⟨none, some 7, (Op.assign (Operand.tmp 14))⟩])
    (.seq (.seq (.reg [⟨none, some 15, (Op.move (Operand.tmp 7))⟩,
         ⟨none, some 16, (Op.binOp BinOp.eql 3 (Operand.tmp 15) (Operand.const (Value.int IntKind.i64 0)) 3)⟩])
      (.cond (Operand.tmp 16) (.seq (.reg [⟨none, some 17, (Op.move (Operand.tmp 0))⟩,
           ⟨none, some 6, (Op.assign (Operand.tmp 17))⟩])
        (.ret)) (.skip)))
     (.seq (.reg [⟨none, some 18, (Op.move (Operand.tmp 0))⟩,
         ⟨none, some 19, (Op.call ⟨(Callee.builtin Builtin.len), #[(Operand.tmp 18)], #[23]⟩)⟩,
         ⟨none, some 8, (Op.assign (Operand.tmp 19))⟩])
      (.seq (.seq (.reg [⟨none, some 20, (Op.move (Operand.tmp 1))⟩,
           ⟨none, some 21, (Op.move (Operand.tmp 8))⟩,
           ⟨none, some 22, (Op.binOp BinOp.eql 3 (Operand.tmp 20) (Operand.tmp 21) 3)⟩])
        (.cond (Operand.tmp 22) (.seq (.reg [⟨none, some 23, (Op.move (Operand.tmp 0))⟩,
             ⟨none, some 24, (Op.move (Operand.tmp 2))⟩,
             ⟨none, some 25, (Op.call ⟨(Callee.builtin Builtin.append), #[(Operand.tmp 23), (Operand.tmp 24)], #[23, 23]⟩)⟩,
             ⟨none, some 6, (Op.assign (Operand.tmp 25))⟩])
          (.ret)) (.skip)))
       (.seq (.seq (.reg [⟨none, some 26, (Op.move (Operand.tmp 8))⟩,
            ⟨none, some 27, (Op.move (Operand.tmp 7))⟩,
            ⟨none, some 28, (Op.binOp BinOp.add 3 (Operand.tmp 26) (Operand.tmp 27) 3)⟩,
            ⟨none, some 29, (Op.move (Operand.tmp 0))⟩,
            ⟨none, some 30, (Op.call ⟨(Callee.builtin Builtin.cap), #[(Operand.tmp 29)], #[23]⟩)⟩,
            ⟨none, some 31, (Op.binOp BinOp.gtr 3 (Operand.tmp 28) (Operand.tmp 30) 3)⟩])
         (.cond (Operand.tmp 31) (.seq (.reg [⟨none, some 32, (Op.move (Operand.tmp 0))⟩,
              ⟨none, some 33, (Op.move (Operand.tmp 1))⟩,
              ⟨none, some 34, (Op.slice 23 (Operand.tmp 32) none (some (Operand.tmp 33)) none)⟩,
              ⟨none, some 35, (Op.move (Operand.tmp 8))⟩,
              ⟨none, some 36, (Op.move (Operand.tmp 7))⟩,
              ⟨none, some 37, (Op.binOp BinOp.add 3 (Operand.tmp 35) (Operand.tmp 36) 3)⟩,
              ⟨none, some 38, (Op.move (Operand.tmp 1))⟩,
              ⟨none, some 39, (Op.binOp BinOp.sub 3 (Operand.tmp 37) (Operand.tmp 38) 3)⟩,
              ⟨none, some 40, (Op.call ⟨(Callee.builtin Builtin.append), #[(Operand.tmp 34), (Operand.tmp 39)], #[23, 3]⟩)⟩,
              ⟨none, some 9, (Op.assign (Operand.tmp 40))⟩])
           (.seq (.reg [⟨none, some 41, (Op.move (Operand.tmp 9))⟩,
               ⟨none, some 42, (Op.move (Operand.tmp 1))⟩,
               ⟨none, some 43, (Op.slice 23 (Operand.tmp 41) (some (Operand.tmp 42)) none none)⟩,
               ⟨none, some 44, (Op.move (Operand.tmp 2))⟩,
               ⟨none, some 45, (Op.call ⟨(Callee.builtin Builtin.copy), #[(Operand.tmp 43), (Operand.tmp 44)], #[23, 23]⟩)⟩])
            (.seq (.draw [⟨⟨none, some 46, (Op.move (Operand.tmp 9))⟩, [], [], []⟩,
                ⟨⟨none, some 47, (Op.move (Operand.tmp 1))⟩, [], [], []⟩,
                ⟨⟨none, some 48, (Op.move (Operand.tmp 7))⟩, [], [], []⟩,
                ⟨⟨none, some 49, (Op.binOp BinOp.add 3 (Operand.tmp 47) (Operand.tmp 48) 3)⟩, [], [], []⟩,
                ⟨⟨none, some 50, (Op.slice 23 (Operand.tmp 46) (some (Operand.tmp 49)) none none)⟩, [40, 1000], [], []⟩,
                ⟨⟨none, some 51, (Op.move (Operand.tmp 0))⟩, [], [40, 1000], []⟩,
                ⟨⟨none, some 52, (Op.move (Operand.tmp 1))⟩, [], [40, 1000], []⟩,
                ⟨⟨none, some 53, (Op.slice 23 (Operand.tmp 51) (some (Operand.tmp 52)) none none)⟩, [40, 1000], [40, 1000], []⟩,
                ⟨⟨none, some 54, (Op.call ⟨(Callee.builtin Builtin.copy), #[(Operand.tmp 50), (Operand.tmp 53)], #[23, 23]⟩)⟩, [], [], []⟩])
             (.seq (.reg [⟨none, some 55, (Op.move (Operand.tmp 9))⟩,
                 ⟨none, some 6, (Op.assign (Operand.tmp 55))⟩])
              (.ret))))) (.skip)))
        (.seq (.reg [⟨none, some 56, (Op.move (Operand.tmp 0))⟩,
            ⟨none, some 57, (Op.move (Operand.tmp 8))⟩,
            ⟨none, some 58, (Op.move (Operand.tmp 7))⟩,
            ⟨none, some 59, (Op.binOp BinOp.add 3 (Operand.tmp 57) (Operand.tmp 58) 3)⟩,
            ⟨none, some 60, (Op.slice 23 (Operand.tmp 56) none (some (Operand.tmp 59)) none)⟩,
            ⟨none, some 0, (Op.assign (Operand.tmp 60))⟩])
         (.seq (.seq (.reg [⟨none, some 61, (Op.move (Operand.tmp 2))⟩,
              ⟨none, some 62, (Op.move (Operand.tmp 0))⟩,
              ⟨none, some 63, (Op.move (Operand.tmp 1))⟩,
              ⟨none, some 64, (Op.move (Operand.tmp 7))⟩,
              ⟨none, some 65, (Op.binOp BinOp.add 3 (Operand.tmp 63) (Operand.tmp 64) 3)⟩,
              ⟨none, some 66, (Op.slice 23 (Operand.tmp 62) (some (Operand.tmp 65)) none none)⟩,
              ⟨none, some 67, (Op.call ⟨(Callee.value (Operand.func 213)), #[(Operand.tmp 61), (Operand.tmp 66)], #[23, 23]⟩)⟩,
              ⟨none, some 68, (Op.unOp UnOp.not 4 (Operand.tmp 67))⟩])
           (.cond (Operand.tmp 68) (.seq (.draw [⟨⟨none, some 69, (Op.move (Operand.tmp 0))⟩, [], [], []⟩,
                ⟨⟨none, some 70, (Op.move (Operand.tmp 1))⟩, [], [], []⟩,
                ⟨⟨none, some 71, (Op.move (Operand.tmp 7))⟩, [], [], []⟩,
                ⟨⟨none, some 72, (Op.binOp BinOp.add 3 (Operand.tmp 70) (Operand.tmp 71) 3)⟩, [], [], []⟩,
                ⟨⟨none, some 73, (Op.slice 23 (Operand.tmp 69) (some (Operand.tmp 72)) none none)⟩, [1000], [], []⟩,
                ⟨⟨none, some 74, (Op.move (Operand.tmp 0))⟩, [], [1000], []⟩,
                ⟨⟨none, some 75, (Op.move (Operand.tmp 1))⟩, [], [1000], []⟩,
                ⟨⟨none, some 76, (Op.slice 23 (Operand.tmp 74) (some (Operand.tmp 75)) none none)⟩, [1000], [1000], []⟩,
                ⟨⟨none, some 77, (Op.call ⟨(Callee.builtin Builtin.copy), #[(Operand.tmp 73), (Operand.tmp 76)], #[23, 23]⟩)⟩, [], [], []⟩])
             (.seq (.reg [⟨none, some 78, (Op.move (Operand.tmp 0))⟩,
                 ⟨none, some 79, (Op.move (Operand.tmp 1))⟩,
                 ⟨none, some 80, (Op.slice 23 (Operand.tmp 78) (some (Operand.tmp 79)) none none)⟩,
                 ⟨none, some 81, (Op.move (Operand.tmp 2))⟩,
                 ⟨none, some 82, (Op.call ⟨(Callee.builtin Builtin.copy), #[(Operand.tmp 80), (Operand.tmp 81)], #[23, 23]⟩)⟩])
              (.seq (.reg [⟨none, some 83, (Op.move (Operand.tmp 0))⟩,
                  ⟨none, some 6, (Op.assign (Operand.tmp 83))⟩])
               (.ret)))) (.skip)))
          (.seq (.reg [⟨none, some 84, (Op.move (Operand.tmp 0))⟩,
              ⟨none, some 85, (Op.move (Operand.tmp 8))⟩,
              ⟨none, some 86, (Op.slice 23 (Operand.tmp 84) (some (Operand.tmp 85)) none none)⟩,
              ⟨none, some 87, (Op.move (Operand.tmp 2))⟩,
              ⟨none, some 88, (Op.call ⟨(Callee.builtin Builtin.copy), #[(Operand.tmp 86), (Operand.tmp 87)], #[23, 23]⟩)⟩])
           (.seq (.reg [⟨none, some 89, (Op.move (Operand.tmp 0))⟩,
               ⟨none, some 90, (Op.move (Operand.tmp 1))⟩,
               ⟨none, some 91, (Op.slice 23 (Operand.tmp 89) (some (Operand.tmp 90)) none none)⟩,
               ⟨none, some 92, (Op.move (Operand.tmp 7))⟩,
               ⟨none, some 93, (Op.call ⟨(Callee.value (Operand.func 214)), #[(Operand.tmp 91), (Operand.tmp 92)], #[23, 3]⟩)⟩])
            (.seq (.reg [⟨none, some 94, (Op.move (Operand.tmp 0))⟩,
                ⟨none, some 6, (Op.assign (Operand.tmp 94))⟩])
             (.ret))))))))))))
theorem vc177 {args : List AV} {L : List (Nat × Ob)} {R : AV → List (Nat × Ob) → Prop} (ha : args.length ≤ 95) (hL : (L.map (·.1)).Nodup)
    (h : ev Go.Proofs.Tryd.prog ⟨95, L.map (·.1)⟩ ac177 (retQ Go.Proofs.Tryd.prog [(ResultVar.tmp 6)] R) ⟨argT args, hpOf L, Us.of (L.map (·.1))⟩) : ACall Go.Proofs.Tryd.prog 177 args L R :=
  acallA (by kernel_rfl) 95 [(11, [⟨0, [], [], [], [4, 8]⟩, ⟨1, [], [], [], [3, 4, 8]⟩, ⟨2, [], [], [], [3, 4, 8]⟩, ⟨3, [], [], [], [4, 8]⟩, ⟨4, [40, 1000], [], [], [8]⟩, ⟨5, [], [40, 1000], [], [7, 8]⟩, ⟨6, [], [40, 1000], [], [7, 8]⟩, ⟨7, [40, 1000], [40, 1000], [], [8]⟩, ⟨8, [], [], [], []⟩]), (15, [⟨0, [], [], [], [4, 8]⟩, ⟨1, [], [], [], [3, 4, 8]⟩, ⟨2, [], [], [], [3, 4, 8]⟩, ⟨3, [], [], [], [4, 8]⟩, ⟨4, [1000], [], [], [8]⟩, ⟨5, [], [1000], [], [7, 8]⟩, ⟨6, [], [1000], [], [7, 8]⟩, ⟨7, [1000], [1000], [], [8]⟩, ⟨8, [], [], [], []⟩])] [(ResultVar.tmp 6)] Go.Proofs.Tryd.func177 (by kernel_rfl) Go.Proofs.Tryd.ntmps177 (by kernel_rfl) ha hL (va_of_ev _ h)
theorem en177 : enters Go.Proofs.Tryd.prog 177 = true := by kernel_rfl
/-- slices.Delete[[]impl.BookSet,impl.BookSet] -/
def ac123 : ACode :=
  .seq (.reg [⟨none, some 6, (Op.assign (Operand.const (Value.slice none 0 0)))⟩])
  (.seq (.reg [⟨none, some 8, (Op.move (Operand.tmp 0))⟩,
      ⟨none, some 9, (Op.move (Operand.tmp 1))⟩,
      ⟨none, some 10, (Op.move (Operand.tmp 2))⟩,
      ⟨none, some 11, (Op.move (Operand.tmp 0))⟩,
      ⟨none, some 12, (Op.call ⟨(Callee.builtin Builtin.len), #[(Operand.tmp 11)], #[23]⟩)⟩,
      ⟨none, some 13, (Op.slice 23 (Operand.tmp 8) (some (Operand.tmp 9)) (some (Operand.tmp 10)) (some (Operand.tmp 12)))⟩])
   (.seq (.seq (.reg [⟨none, some 14, (Op.move (Operand.tmp 1))⟩,
        ⟨none, some 15, (Op.move (Operand.tmp 2))⟩,
        ⟨none, some 16, (Op.binOp BinOp.eql 3 (Operand.tmp 14) (Operand.tmp 15) 3)⟩])
     (.cond (Operand.tmp 16) (.seq (.reg [⟨none, some 17, (Op.move (Operand.tmp 0))⟩,
          ⟨none, some 6, (Op.assign (Operand.tmp 17))⟩])
       (.ret)) (.skip)))
    (.seq (.reg [⟨none, some 18, (Op.move (Operand.tmp 0))⟩,
        ⟨none, some 19, (Op.call ⟨(Callee.builtin Builtin.len), #[(Operand.tmp 18)], #[23]⟩)⟩,
        ⟨none, some 7, (Op.assign (Operand.tmp 19))⟩])
     (.seq (.draw [⟨⟨none, some 20, (Op.move (Operand.tmp 0))⟩, [], [], []⟩,
         ⟨⟨none, some 21, (Op.move (Operand.tmp 1))⟩, [], [], []⟩,
         ⟨⟨none, some 22, (Op.slice 23 (Operand.tmp 20) none (some (Operand.tmp 21)) none)⟩, [1000], [], []⟩,
         ⟨⟨none, some 23, (Op.move (Operand.tmp 0))⟩, [], [1000], []⟩,
         ⟨⟨none, some 24, (Op.move (Operand.tmp 2))⟩, [], [1000], []⟩,
         ⟨⟨none, some 25, (Op.slice 23 (Operand.tmp 23) (some (Operand.tmp 24)) none none)⟩, [1000], [1000], []⟩,
         ⟨⟨none, some 26, (Op.call ⟨(Callee.builtin Builtin.append), #[(Operand.tmp 22), (Operand.tmp 25)], #[23, 23]⟩)⟩, [], [], []⟩,
         ⟨⟨none, some 0, (Op.assign (Operand.tmp 26))⟩, [], [], []⟩])
      (.seq (.reg [⟨none, some 27, (Op.move (Operand.tmp 0))⟩,
          ⟨none, some 28, (Op.move (Operand.tmp 0))⟩,
          ⟨none, some 29, (Op.call ⟨(Callee.builtin Builtin.len), #[(Operand.tmp 28)], #[23]⟩)⟩,
          ⟨none, some 30, (Op.move (Operand.tmp 7))⟩,
          ⟨none, some 31, (Op.slice 23 (Operand.tmp 27) (some (Operand.tmp 29)) (some (Operand.tmp 30)) none)⟩,
          ⟨none, none, (Op.call ⟨(Callee.builtin Builtin.clear), #[(Operand.tmp 31)], #[23]⟩)⟩])
       (.seq (.reg [⟨none, some 32, (Op.move (Operand.tmp 0))⟩,
           ⟨none, some 6, (Op.assign (Operand.tmp 32))⟩])
        (.ret)))))))
theorem vc123 {args : List AV} {L : List (Nat × Ob)} {R : AV → List (Nat × Ob) → Prop} (ha : args.length ≤ 33) (hL : (L.map (·.1)).Nodup)
    (h : ev Go.Proofs.Tryd.prog ⟨33, L.map (·.1)⟩ ac123 (retQ Go.Proofs.Tryd.prog [(ResultVar.tmp 6)] R) ⟨argT args, hpOf L, Us.of (L.map (·.1))⟩) : ACall Go.Proofs.Tryd.prog 123 args L R :=
  acallA (by kernel_rfl) 33 [(5, [⟨0, [], [], [], [2, 6, 7]⟩, ⟨1, [], [], [], [2, 6, 7]⟩, ⟨2, [1000], [], [], [6, 7]⟩, ⟨3, [], [1000], [], [5, 6, 7]⟩, ⟨4, [], [1000], [], [5, 6, 7]⟩, ⟨5, [1000], [1000], [], [6, 7]⟩, ⟨6, [], [], [], [7]⟩, ⟨7, [], [], [], []⟩])] [(ResultVar.tmp 6)] Go.Proofs.Tryd.func123 (by kernel_rfl) Go.Proofs.Tryd.ntmps123 (by kernel_rfl) ha hL (va_of_ev _ h)
theorem en123 : enters Go.Proofs.Tryd.prog 123 = true := by kernel_rfl
/-- (*impl.Book).do -/
def ac59 : ACode :=
  .seq (.reg [⟨none, some 3, (Op.box 27 (Operand.tmp 1))⟩,
     ⟨none, some 4, (Op.assign (Operand.const (Value.int IntKind.i64 0)))⟩])
  (.seq (.seq (.reg [⟨none, some 12, (Op.fieldAddr 27 (Operand.tmp 3) 0)⟩,
       ⟨none, some 13, (Op.load 3 (Operand.tmp 12))⟩,
       ⟨none, some 14, (Op.binOp BinOp.eql 3 (Operand.tmp 13) (Operand.const (Value.int IntKind.i64 1)) 3)⟩])
    (.cond (Operand.tmp 14) (.seq (.reg [⟨none, some 15, (Op.move (Operand.tmp 0))⟩,
         ⟨none, some 16, (Op.fieldAddr 27 (Operand.tmp 3) 1)⟩,
         ⟨none, some 17, (Op.load 9 (Operand.tmp 16))⟩,
         ⟨none, some 18, (Op.build 35 #[(0, (Operand.tmp 17)), (1, (Operand.const (Value.int IntKind.i64 1)))])⟩,
         ⟨none, some 19, (Op.call ⟨(Callee.value (Operand.func 121)), #[(Operand.tmp 15), (Operand.tmp 18)], #[158, 35]⟩)⟩,
         ⟨none, some 4, (Op.assign (Operand.tmp 19))⟩])
      (.ret)) (.skip)))
   (.seq (.draw [⟨⟨none, some 21, (Op.move (Operand.tmp 0))⟩, [], [], []⟩,
       ⟨⟨none, some 22, (Op.nilCheck (Operand.tmp 21))⟩, [], [], []⟩,
       ⟨⟨none, some 23, (Op.load 25 (Operand.tmp 22))⟩, [1000], [], []⟩,
       ⟨⟨none, some 24, (Op.fieldAddr 27 (Operand.tmp 3) 1)⟩, [], [1000], []⟩,
       ⟨⟨none, some 25, (Op.load 9 (Operand.tmp 24))⟩, [3], [1000], []⟩,
       ⟨⟨none, some 26, (Op.call ⟨(Callee.value (Operand.func 65)), #[(Operand.tmp 23), (Operand.tmp 25)], #[158, 9]⟩)⟩, [], [], []⟩,
       ⟨⟨none, some 20, (Op.move (Operand.tmp 26))⟩, [], [], []⟩,
       ⟨⟨none, some 27, (Op.extract (Operand.tmp 20) 0)⟩, [], [], []⟩,
       ⟨⟨none, some 28, (Op.extract (Operand.tmp 20) 1)⟩, [], [], []⟩,
       ⟨⟨none, some 5, (Op.assign (Operand.tmp 27))⟩, [], [], []⟩,
       ⟨⟨none, some 6, (Op.assign (Operand.tmp 28))⟩, [], [], []⟩])
    (.seq (.block 0 (.seq (.reg [⟨none, some 30, (Op.fieldAddr 27 (Operand.tmp 3) 0)⟩,
          ⟨none, some 31, (Op.load 3 (Operand.tmp 30))⟩,
          ⟨none, some 32, (Op.call ⟨(Callee.value (Operand.func 76)), #[(Operand.tmp 31), (Operand.const (Value.int IntKind.i64 1)), (Operand.const (Value.int IntKind.i64 6))], #[3, 3, 3]⟩)⟩,
          ⟨none, some 33, (Op.unOp UnOp.not 4 (Operand.tmp 32))⟩,
          ⟨none, some 29, (Op.assign (Operand.tmp 33))⟩])
       (.cond (Operand.tmp 29) (.seq (.reg [⟨none, some 4, (Op.assign (Operand.const (Value.int IntKind.i64 5)))⟩])
         (.ret)) (.seq (.reg [⟨none, some 35, (Op.move (Operand.tmp 6))⟩,
            ⟨none, some 36, (Op.unOp UnOp.not 4 (Operand.tmp 35))⟩,
            ⟨none, some 34, (Op.assign (Operand.tmp 36))⟩])
         (.cond (Operand.tmp 34) (.seq (.reg [⟨none, some 4, (Op.assign (Operand.const (Value.int IntKind.i64 1)))⟩])
           (.ret)) (.skip))))))
     (.seq (.reg [⟨none, some 37, (Op.move (Operand.tmp 0))⟩,
         ⟨none, some 38, (Op.nilCheck (Operand.tmp 37))⟩,
         ⟨none, some 39, (Op.fieldAddr 25 (Operand.tmp 38) 0)⟩,
         ⟨none, some 40, (Op.load 23 (Operand.tmp 39))⟩,
         ⟨none, some 41, (Op.move (Operand.tmp 5))⟩,
         ⟨none, some 42, (Op.indexAddr 23 (Operand.tmp 40) (Operand.tmp 41))⟩,
         ⟨none, some 7, (Op.assign (Operand.tmp 42))⟩])
      (.seq (.seq (.reg [⟨none, some 43, (Op.fieldAddr 27 (Operand.tmp 3) 0)⟩,
           ⟨none, some 44, (Op.load 3 (Operand.tmp 43))⟩])
        (.block 1 (.seq (.reg [⟨none, some 99, (Op.binOp BinOp.eql 3 (Operand.tmp 44) (Operand.const (Value.int IntKind.i64 2)) 3)⟩,
             ⟨none, some 98, (Op.assign (Operand.tmp 99))⟩])
          (.cond (Operand.tmp 98) (.seq (.seq (.reg [⟨none, some 100, (Op.move (Operand.tmp 0))⟩,
                ⟨none, some 101, (Op.nilCheck (Operand.tmp 100))⟩,
                ⟨none, some 102, (Op.fieldAddr 25 (Operand.tmp 101) 0)⟩,
                ⟨none, some 103, (Op.load 23 (Operand.tmp 102))⟩,
                ⟨none, some 104, (Op.makeFunc (Fn.func 122) #[] #[(Operand.tmp 3)])⟩,
                ⟨none, some 105, (Op.call ⟨(Callee.value (Operand.func 70)), #[(Operand.tmp 103), (Operand.tmp 104)], #[23, 103]⟩)⟩])
             (.cond (Operand.tmp 105) (.seq (.reg [⟨none, some 4, (Op.assign (Operand.const (Value.int IntKind.i64 6)))⟩])
               (.ret)) (.skip)))
            (.reg [⟨none, some 106, (Op.move (Operand.tmp 0))⟩,
               ⟨none, some 107, (Op.move (Operand.tmp 0))⟩,
               ⟨none, some 108, (Op.nilCheck (Operand.tmp 107))⟩,
               ⟨none, some 109, (Op.fieldAddr 25 (Operand.tmp 108) 0)⟩,
               ⟨none, some 110, (Op.load 23 (Operand.tmp 109))⟩,
               ⟨none, some 111, (Op.move (Operand.tmp 5))⟩,
               ⟨none, some 112, (Op.move (Operand.tmp 5))⟩,
               ⟨none, some 113, (Op.binOp BinOp.add 3 (Operand.tmp 112) (Operand.const (Value.int IntKind.i64 1)) 3)⟩,
               ⟨none, some 114, (Op.call ⟨(Callee.value (Operand.func 123)), #[(Operand.tmp 110), (Operand.tmp 111), (Operand.tmp 113)], #[23, 3, 3]⟩)⟩,
               ⟨none, some 115, (Op.nilCheck (Operand.tmp 106))⟩,
               ⟨none, some 116, (Op.fieldAddr 25 (Operand.tmp 115) 0)⟩,
               ⟨none, none, (Op.store 23 (Operand.tmp 116) (Operand.tmp 114))⟩])) (.seq (.reg [⟨none, some 118, (Op.binOp BinOp.eql 3 (Operand.tmp 44) (Operand.const (Value.int IntKind.i64 3)) 3)⟩,
               ⟨none, some 117, (Op.assign (Operand.tmp 118))⟩])
            (.cond (Operand.tmp 117) (.seq (.block 3 (.seq (.reg [⟨none, some 120, (Op.fieldAddr 27 (Operand.tmp 3) 3)⟩,
                   ⟨none, some 121, (Op.load 3 (Operand.tmp 120))⟩,
                   ⟨none, some 122, (Op.call ⟨(Callee.value (Operand.func 64)), #[(Operand.tmp 121)], #[3]⟩)⟩,
                   ⟨none, some 123, (Op.unOp UnOp.not 4 (Operand.tmp 122))⟩,
                   ⟨none, some 124, (Op.move (Operand.tmp 123))⟩,
                   ⟨some (124, false), some 125, (Op.fieldAddr 27 (Operand.tmp 3) 4)⟩,
                   ⟨some (124, false), some 126, (Op.load 9 (Operand.tmp 125))⟩,
                   ⟨some (124, false), some 127, (Op.call ⟨(Callee.builtin Builtin.len), #[(Operand.tmp 126)], #[9]⟩)⟩,
                   ⟨some (124, false), some 128, (Op.binOp BinOp.gtr 3 (Operand.tmp 127) (Operand.const (Value.int IntKind.i64 24)) 3)⟩,
                   ⟨none, some 129, (Op.pick (Operand.tmp 124) (Operand.const (Value.bool true)) (Operand.tmp 128))⟩,
                   ⟨none, some 119, (Op.assign (Operand.tmp 129))⟩])
                (.cond (Operand.tmp 119) (.seq (.reg [⟨none, some 4, (Op.assign (Operand.const (Value.int IntKind.i64 5)))⟩])
                  (.ret)) (.seq (.reg [⟨none, some 131, (Op.move (Operand.tmp 7))⟩,
                     ⟨none, some 132, (Op.nilCheck (Operand.tmp 131))⟩,
                     ⟨none, some 133, (Op.fieldAddr 35 (Operand.tmp 132) 1)⟩,
                     ⟨none, some 134, (Op.load 3 (Operand.tmp 133))⟩,
                     ⟨none, some 135, (Op.binOp BinOp.neq 3 (Operand.tmp 134) (Operand.const (Value.int IntKind.i64 1)) 3)⟩,
                     ⟨none, some 130, (Op.assign (Operand.tmp 135))⟩])
                  (.cond (Operand.tmp 130) (.seq (.reg [⟨none, some 4, (Op.assign (Operand.const (Value.int IntKind.i64 3)))⟩])
                    (.ret)) (.skip))))))
              (.draw [⟨⟨none, some 136, (Op.move (Operand.tmp 7))⟩, [], [], []⟩,
                 ⟨⟨none, some 137, (Op.fieldAddr 27 (Operand.tmp 3) 3)⟩, [], [], []⟩,
                 ⟨⟨none, some 138, (Op.load 3 (Operand.tmp 137))⟩, [3], [], []⟩,
                 ⟨⟨none, some 139, (Op.fieldAddr 27 (Operand.tmp 3) 4)⟩, [], [3], []⟩,
                 ⟨⟨none, some 140, (Op.load 9 (Operand.tmp 139))⟩, [3], [3], []⟩,
                 ⟨⟨none, some 141, (Op.nilCheck (Operand.tmp 136))⟩, [], [3], []⟩,
                 ⟨⟨none, some 142, (Op.fieldAddr 35 (Operand.tmp 141) 3)⟩, [], [3], []⟩,
                 ⟨⟨none, some 143, (Op.indexAddr 33 (Operand.tmp 142) (Operand.tmp 138))⟩, [], [], []⟩,
                 ⟨⟨none, none, (Op.store 9 (Operand.tmp 143) (Operand.tmp 140))⟩, [], [], []⟩])) (.seq (.seq (.reg [⟨none, some 145, (Op.binOp BinOp.eql 3 (Operand.tmp 44) (Operand.const (Value.int IntKind.i64 4)) 3)⟩,
                  ⟨none, some 144, (Op.assign (Operand.tmp 145))⟩])
               (.cond (Operand.tmp 144) (.skip) (.reg [⟨none, some 146, (Op.binOp BinOp.eql 3 (Operand.tmp 44) (Operand.const (Value.int IntKind.i64 5)) 3)⟩,
                   ⟨none, some 144, (Op.assign (Operand.tmp 146))⟩])))
              (.cond (Operand.tmp 144) (.seq (.reg [⟨none, some 8, (Op.assign (Operand.const (Value.int IntKind.i64 1)))⟩,
                   ⟨none, some 9, (Op.assign (Operand.const (Value.int IntKind.i64 2)))⟩])
                (.seq (.seq (.reg [⟨none, some 147, (Op.fieldAddr 27 (Operand.tmp 3) 0)⟩,
                     ⟨none, some 148, (Op.load 3 (Operand.tmp 147))⟩,
                     ⟨none, some 149, (Op.binOp BinOp.eql 3 (Operand.tmp 148) (Operand.const (Value.int IntKind.i64 5)) 3)⟩])
                  (.cond (Operand.tmp 149) (.reg [⟨none, some 150, (Op.move (Operand.tmp 9))⟩,
                      ⟨none, some 151, (Op.move (Operand.tmp 8))⟩,
                      ⟨none, some 8, (Op.assign (Operand.tmp 150))⟩,
                      ⟨none, some 9, (Op.assign (Operand.tmp 151))⟩]) (.skip)))
                 (.seq (.seq (.reg [⟨none, some 152, (Op.move (Operand.tmp 7))⟩,
                      ⟨none, some 153, (Op.nilCheck (Operand.tmp 152))⟩,
                      ⟨none, some 154, (Op.fieldAddr 35 (Operand.tmp 153) 1)⟩,
                      ⟨none, some 155, (Op.load 3 (Operand.tmp 154))⟩,
                      ⟨none, some 156, (Op.move (Operand.tmp 8))⟩,
                      ⟨none, some 157, (Op.binOp BinOp.neq 3 (Operand.tmp 155) (Operand.tmp 156) 3)⟩])
                   (.cond (Operand.tmp 157) (.seq (.reg [⟨none, some 4, (Op.assign (Operand.const (Value.int IntKind.i64 3)))⟩])
                     (.ret)) (.skip)))
                  (.seq (.draw [⟨⟨none, some 158, (Op.move (Operand.tmp 0))⟩, [], [], []⟩,
                      ⟨⟨none, some 159, (Op.fieldAddr 27 (Operand.tmp 3) 2)⟩, [], [], []⟩,
                      ⟨⟨none, some 160, (Op.load 9 (Operand.tmp 159))⟩, [3], [], []⟩,
                      ⟨⟨none, some 161, (Op.move (Operand.tmp 9))⟩, [], [3], []⟩,
                      ⟨⟨none, some 162, (Op.fieldAddr 27 (Operand.tmp 3) 1)⟩, [], [3], []⟩,
                      ⟨⟨none, some 163, (Op.load 9 (Operand.tmp 162))⟩, [3], [3], []⟩,
                      ⟨⟨none, some 164, (Op.move (Operand.tmp 7))⟩, [], [3], []⟩,
                      ⟨⟨none, some 165, (Op.nilCheck (Operand.tmp 164))⟩, [], [3], []⟩,
                      ⟨⟨none, some 166, (Op.fieldAddr 35 (Operand.tmp 165) 3)⟩, [], [3], []⟩,
                      ⟨⟨none, some 167, (Op.load 33 (Operand.tmp 166))⟩, [1001], [3], []⟩,
                      ⟨⟨none, some 168, (Op.build 35 #[(0, (Operand.tmp 160)), (1, (Operand.tmp 161)), (2, (Operand.tmp 163)), (3, (Operand.tmp 167))])⟩, [], [], []⟩,
                      ⟨⟨none, some 169, (Op.call ⟨(Callee.value (Operand.func 121)), #[(Operand.tmp 158), (Operand.tmp 168)], #[158, 35]⟩)⟩, [], [], []⟩,
                      ⟨⟨none, some 4, (Op.assign (Operand.tmp 169))⟩, [], [], []⟩])
                   (.ret))))) (.seq (.draw [⟨⟨none, some 46, (Op.move (Operand.tmp 0))⟩, [], [], []⟩,
                   ⟨⟨none, some 47, (Op.nilCheck (Operand.tmp 46))⟩, [], [], []⟩,
                   ⟨⟨none, some 48, (Op.load 25 (Operand.tmp 47))⟩, [1000], [], []⟩,
                   ⟨⟨none, some 49, (Op.fieldAddr 27 (Operand.tmp 3) 2)⟩, [], [1000], []⟩,
                   ⟨⟨none, some 50, (Op.load 9 (Operand.tmp 49))⟩, [3], [1000], []⟩,
                   ⟨⟨none, some 51, (Op.call ⟨(Callee.value (Operand.func 65)), #[(Operand.tmp 48), (Operand.tmp 50)], #[158, 9]⟩)⟩, [], [], []⟩,
                   ⟨⟨none, some 45, (Op.move (Operand.tmp 51))⟩, [], [], []⟩,
                   ⟨⟨none, some 52, (Op.extract (Operand.tmp 45) 0)⟩, [], [], []⟩,
                   ⟨⟨none, some 53, (Op.extract (Operand.tmp 45) 1)⟩, [], [], []⟩,
                   ⟨⟨none, some 10, (Op.assign (Operand.tmp 52))⟩, [], [], []⟩,
                   ⟨⟨none, some 11, (Op.assign (Operand.tmp 53))⟩, [], [], []⟩])
                (.seq (.block 2 (.seq (.reg [⟨none, some 55, (Op.move (Operand.tmp 11))⟩,
                      ⟨none, some 56, (Op.unOp UnOp.not 4 (Operand.tmp 55))⟩,
                      ⟨none, some 54, (Op.assign (Operand.tmp 56))⟩])
                   (.cond (Operand.tmp 54) (.seq (.reg [⟨none, some 4, (Op.assign (Operand.const (Value.int IntKind.i64 1)))⟩])
                     (.ret)) (.seq (.draw [⟨⟨none, some 58, (Op.move (Operand.tmp 7))⟩, [], [], []⟩,
                        ⟨⟨none, some 59, (Op.nilCheck (Operand.tmp 58))⟩, [], [], []⟩,
                        ⟨⟨none, some 60, (Op.fieldAddr 35 (Operand.tmp 59) 1)⟩, [], [], []⟩,
                        ⟨⟨none, some 61, (Op.load 3 (Operand.tmp 60))⟩, [1001], [], []⟩,
                        ⟨⟨none, some 62, (Op.binOp BinOp.neq 3 (Operand.tmp 61) (Operand.const (Value.int IntKind.i64 1)) 3)⟩, [], [], []⟩,
                        ⟨⟨none, some 63, (Op.move (Operand.tmp 62))⟩, [], [], []⟩,
                        ⟨⟨some (63, false), some 64, (Op.move (Operand.tmp 0))⟩, [], [], []⟩,
                        ⟨⟨some (63, false), some 65, (Op.nilCheck (Operand.tmp 64))⟩, [], [], []⟩,
                        ⟨⟨some (63, false), some 66, (Op.fieldAddr 25 (Operand.tmp 65) 0)⟩, [], [], []⟩,
                        ⟨⟨some (63, false), some 67, (Op.load 23 (Operand.tmp 66))⟩, [1000], [], []⟩,
                        ⟨⟨some (63, false), some 68, (Op.move (Operand.tmp 10))⟩, [], [1000], []⟩,
                        ⟨⟨some (63, false), some 69, (Op.indexAddr 23 (Operand.tmp 67) (Operand.tmp 68))⟩, [1001], [], []⟩,
                        ⟨⟨some (63, false), some 70, (Op.fieldAddr 35 (Operand.tmp 69) 1)⟩, [], [], []⟩,
                        ⟨⟨some (63, false), some 71, (Op.load 3 (Operand.tmp 70))⟩, [1001], [], []⟩,
                        ⟨⟨some (63, false), some 72, (Op.binOp BinOp.neq 3 (Operand.tmp 71) (Operand.const (Value.int IntKind.i64 2)) 3)⟩, [], [], []⟩,
                        ⟨⟨none, some 73, (Op.pick (Operand.tmp 63) (Operand.const (Value.bool true)) (Operand.tmp 72))⟩, [], [], []⟩,
                        ⟨⟨none, some 74, (Op.move (Operand.tmp 73))⟩, [], [], []⟩,
                        ⟨⟨some (74, false), some 75, (Op.move (Operand.tmp 0))⟩, [], [], []⟩,
                        ⟨⟨some (74, false), some 76, (Op.nilCheck (Operand.tmp 75))⟩, [], [], []⟩,
                        ⟨⟨some (74, false), some 77, (Op.fieldAddr 25 (Operand.tmp 76) 0)⟩, [], [], []⟩,
                        ⟨⟨some (74, false), some 78, (Op.load 23 (Operand.tmp 77))⟩, [1000], [], []⟩,
                        ⟨⟨some (74, false), some 79, (Op.move (Operand.tmp 10))⟩, [], [1000], []⟩,
                        ⟨⟨some (74, false), some 80, (Op.indexAddr 23 (Operand.tmp 78) (Operand.tmp 79))⟩, [1001], [], []⟩,
                        ⟨⟨some (74, false), some 81, (Op.fieldAddr 35 (Operand.tmp 80) 2)⟩, [], [], []⟩,
                        ⟨⟨some (74, false), some 82, (Op.load 9 (Operand.tmp 81))⟩, [1001], [], []⟩,
                        ⟨⟨some (74, false), some 83, (Op.fieldAddr 27 (Operand.tmp 3) 1)⟩, [], [1000, 1001], []⟩,
                        ⟨⟨some (74, false), some 84, (Op.load 9 (Operand.tmp 83))⟩, [3], [1000, 1001], []⟩,
                        ⟨⟨some (74, false), some 85, (Op.binOp BinOp.neq 9 (Operand.tmp 82) (Operand.tmp 84) 9)⟩, [], [], []⟩,
                        ⟨⟨none, some 86, (Op.pick (Operand.tmp 74) (Operand.const (Value.bool true)) (Operand.tmp 85))⟩, [], [], []⟩,
                        ⟨⟨none, some 57, (Op.assign (Operand.tmp 86))⟩, [], [], []⟩])
                     (.cond (Operand.tmp 57) (.seq (.reg [⟨none, some 4, (Op.assign (Operand.const (Value.int IntKind.i64 3)))⟩])
                       (.ret)) (.skip))))))
                 (.reg [⟨none, some 87, (Op.move (Operand.tmp 7))⟩,
                    ⟨none, some 88, (Op.move (Operand.tmp 0))⟩,
                    ⟨none, some 89, (Op.nilCheck (Operand.tmp 88))⟩,
                    ⟨none, some 90, (Op.fieldAddr 25 (Operand.tmp 89) 0)⟩,
                    ⟨none, some 91, (Op.load 23 (Operand.tmp 90))⟩,
                    ⟨none, some 92, (Op.move (Operand.tmp 10))⟩,
                    ⟨none, some 93, (Op.indexAddr 23 (Operand.tmp 91) (Operand.tmp 92))⟩,
                    ⟨none, some 94, (Op.fieldAddr 35 (Operand.tmp 93) 3)⟩,
                    ⟨none, some 95, (Op.load 33 (Operand.tmp 94))⟩,
                    ⟨none, some 96, (Op.nilCheck (Operand.tmp 87))⟩,
                    ⟨none, some 97, (Op.fieldAddr 35 (Operand.tmp 96) 3)⟩,
                    ⟨none, none, (Op.store 33 (Operand.tmp 97) (Operand.tmp 95))⟩])))))))))))
       (.seq (.reg [⟨none, some 4, (Op.assign (Operand.const (Value.int IntKind.i64 0)))⟩])
        (.ret)))))))
theorem vc59 {args : List AV} {L : List (Nat × Ob)} {R : AV → List (Nat × Ob) → Prop} (ha : args.length ≤ 170) (hL : (L.map (·.1)).Nodup)
    (h : ev Go.Proofs.Tryd.prog ⟨170, L.map (·.1)⟩ ac59 (retQ Go.Proofs.Tryd.prog [(ResultVar.tmp 4)] R) ⟨argT args, hpOf L, Us.of (L.map (·.1))⟩) : ACall Go.Proofs.Tryd.prog 59 args L R :=
  acallA (by kernel_rfl) 170 [(3, [⟨0, [], [], [], [1, 2, 5, 6, 7, 8, 9, 10]⟩, ⟨1, [], [], [], [2, 5, 6, 7, 8, 9, 10]⟩, ⟨2, [1000], [], [], [5, 6, 7, 8, 9, 10]⟩, ⟨3, [], [1000], [], [4, 5, 6, 7, 8, 9, 10]⟩, ⟨4, [3], [1000], [], [5, 6, 7, 8, 9, 10]⟩, ⟨5, [], [], [], [6, 7, 8, 9, 10]⟩, ⟨6, [], [], [], [7, 8, 9, 10]⟩, ⟨7, [], [], [], [9, 10]⟩, ⟨8, [], [], [], [10]⟩, ⟨9, [], [], [], [10]⟩, ⟨10, [], [], [], []⟩]), (25, [⟨0, [], [], [], [5, 6, 7, 8]⟩, ⟨1, [], [], [], [2, 7, 8]⟩, ⟨2, [3], [], [], [7, 8]⟩, ⟨3, [], [3], [], [4, 7, 8]⟩, ⟨4, [3], [3], [], [7, 8]⟩, ⟨5, [], [3], [], [6, 7, 8]⟩, ⟨6, [], [3], [], [7, 8]⟩, ⟨7, [], [], [], [8]⟩, ⟨8, [], [], [], []⟩]), (33, [⟨0, [], [], [], [11, 12]⟩, ⟨1, [], [], [], [2, 10, 11, 12]⟩, ⟨2, [3], [], [], [10, 11, 12]⟩, ⟨3, [], [3], [], [10, 11, 12]⟩, ⟨4, [], [3], [], [5, 10, 11, 12]⟩, ⟨5, [3], [3], [], [10, 11, 12]⟩, ⟨6, [], [3], [], [7, 8, 9, 10, 11, 12]⟩, ⟨7, [], [3], [], [8, 9, 10, 11, 12]⟩, ⟨8, [], [3], [], [9, 10, 11, 12]⟩, ⟨9, [1001], [3], [], [10, 11, 12]⟩, ⟨10, [], [], [], [11, 12]⟩, ⟨11, [], [], [], [12]⟩, ⟨12, [], [], [], []⟩]), (10, [⟨0, [], [], [], [1, 2, 5, 6, 7, 8, 9, 10]⟩, ⟨1, [], [], [], [2, 5, 6, 7, 8, 9, 10]⟩, ⟨2, [1000], [], [], [5, 6, 7, 8, 9, 10]⟩, ⟨3, [], [1000], [], [4, 5, 6, 7, 8, 9, 10]⟩, ⟨4, [3], [1000], [], [5, 6, 7, 8, 9, 10]⟩, ⟨5, [], [], [], [6, 7, 8, 9, 10]⟩, ⟨6, [], [], [], [7, 8, 9, 10]⟩, ⟨7, [], [], [], [9, 10]⟩, ⟨8, [], [], [], [10]⟩, ⟨9, [], [], [], [10]⟩, ⟨10, [], [], [], []⟩]), (13, [⟨0, [], [], [], [1, 2, 3, 4, 5, 6, 7, 8, 9, 10, 11, 12, 13, 14, 15, 16, 17, 18, 19, 20, 21, 22, 23, 24, 25, 26, 27, 28, 29]⟩, ⟨1, [], [], [], [2, 3, 4, 5, 6, 7, 8, 9, 10, 11, 12, 13, 14, 15, 16, 17, 18, 19, 20, 21, 22, 23, 24, 25, 26, 27, 28, 29]⟩, ⟨2, [], [], [], [3, 4, 5, 6, 7, 8, 9, 10, 11, 12, 13, 14, 15, 16, 17, 18, 19, 20, 21, 22, 23, 24, 25, 26, 27, 28, 29]⟩, ⟨3, [1001], [], [], [4, 5, 6, 7, 8, 9, 10, 11, 12, 13, 14, 15, 16, 17, 18, 19, 20, 21, 22, 23, 24, 25, 26, 27, 28, 29]⟩, ⟨4, [], [], [], [5, 6, 7, 8, 9, 10, 11, 12, 13, 14, 15, 16, 17, 18, 19, 20, 21, 22, 23, 24, 25, 26, 27, 28, 29]⟩, ⟨5, [], [], [], [6, 7, 8, 9, 10, 11, 12, 13, 14, 15, 16, 17, 18, 19, 20, 21, 22, 23, 24, 25, 26, 27, 28, 29]⟩, ⟨6, [], [], [], [7, 8, 9, 11, 12, 13, 14, 15, 16, 17, 18, 19, 20, 21, 22, 23, 24, 25, 26, 27, 28, 29]⟩, ⟨7, [], [], [], [8, 9, 11, 12, 13, 14, 15, 16, 17, 18, 19, 20, 21, 22, 23, 24, 25, 26, 27, 28, 29]⟩, ⟨8, [], [], [], [9, 11, 12, 13, 14, 15, 16, 17, 18, 19, 20, 21, 22, 23, 24, 25, 26, 27, 28, 29]⟩, ⟨9, [1000], [], [], [11, 12, 13, 14, 15, 16, 17, 18, 19, 20, 21, 22, 23, 24, 25, 26, 27, 28, 29]⟩, ⟨10, [], [1000], [], [11, 12, 13, 14, 15, 16, 17, 18, 19, 20, 21, 22, 23, 24, 25, 26, 27, 28, 29]⟩, ⟨11, [1001], [], [], [12, 13, 14, 15, 16, 17, 18, 19, 20, 21, 22, 23, 24, 25, 26, 27, 28, 29]⟩, ⟨12, [], [], [], [13, 14, 15, 16, 17, 18, 19, 20, 21, 22, 23, 24, 25, 26, 27, 28, 29]⟩, ⟨13, [1001], [], [], [14, 15, 16, 17, 18, 19, 20, 21, 22, 23, 24, 25, 26, 27, 28, 29]⟩, ⟨14, [], [], [], [15, 16, 17, 18, 19, 20, 21, 22, 23, 24, 25, 26, 27, 28, 29]⟩, ⟨15, [], [], [], [16, 17, 18, 19, 20, 21, 22, 23, 24, 25, 26, 27, 28, 29]⟩, ⟨16, [], [], [], [17, 18, 19, 20, 21, 22, 23, 24, 25, 26, 27, 28, 29]⟩, ⟨17, [], [], [], [18, 19, 20, 22, 23, 24, 27, 28, 29]⟩, ⟨18, [], [], [], [19, 20, 22, 23, 24, 27, 28, 29]⟩, ⟨19, [], [], [], [20, 22, 23, 24, 27, 28, 29]⟩, ⟨20, [1000], [], [], [22, 23, 24, 27, 28, 29]⟩, ⟨21, [], [1000], [], [22, 23, 24, 27, 28, 29]⟩, ⟨22, [1001], [], [], [23, 24, 27, 28, 29]⟩, ⟨23, [], [], [], [24, 27, 28, 29]⟩, ⟨24, [1001], [], [], [27, 28, 29]⟩, ⟨25, [], [1000, 1001], [], [26, 27, 28, 29]⟩, ⟨26, [3], [1000, 1001], [], [27, 28, 29]⟩, ⟨27, [], [], [], [28, 29]⟩, ⟨28, [], [], [], [29]⟩, ⟨29, [], [], [], []⟩])] [(ResultVar.tmp 4)] Go.Proofs.Tryd.func59 (by kernel_rfl) Go.Proofs.Tryd.ntmps59 (by kernel_rfl) ha hL (va_of_ev _ h)
theorem en59 : enters Go.Proofs.Tryd.prog 59 = true := by kernel_rfl
/-- spec.DrawBookDo -/
def ac15 : ACode :=
  .seq (.reg [⟨none, some 2, (Op.alloc 25)⟩,
     ⟨none, some 3, (Op.alloc 27)⟩])
  (.seq (.reg [⟨none, some 6, (Op.move (Operand.tmp 0))⟩,
      ⟨none, some 7, (Op.call ⟨(Callee.value (Operand.func 55)), #[(Operand.tmp 6)], #[22]⟩)⟩,
      ⟨none, some 4, (Op.assign (Operand.tmp 7))⟩])
   (.seq (.reg [⟨none, some 8, (Op.move (Operand.tmp 4))⟩,
       ⟨none, some 9, (Op.call ⟨(Callee.value (Operand.func 56)), #[(Operand.tmp 8)], #[88]⟩)⟩,
       ⟨none, some 5, (Op.alloc 25)⟩,
       ⟨none, none, (Op.store 25 (Operand.tmp 5) (Operand.tmp 9))⟩])
    (.seq (.draw [⟨⟨none, some 10, (Op.load 25 (Operand.tmp 5))⟩, [5], [], []⟩,
        ⟨⟨none, some 11, (Op.move (Operand.tmp 4))⟩, [], [5], []⟩,
        ⟨⟨none, some 12, (Op.load 25 (Operand.tmp 5))⟩, [5], [5], []⟩,
        ⟨⟨none, some 13, (Op.call ⟨(Callee.value (Operand.func 57)), #[(Operand.tmp 11), (Operand.tmp 12)], #[88, 25]⟩)⟩, [], [5], []⟩,
        ⟨⟨none, none, (Op.store 25 (Operand.tmp 2) (Operand.tmp 10))⟩, [], [], []⟩,
        ⟨⟨none, none, (Op.store 27 (Operand.tmp 3) (Operand.tmp 13))⟩, [], [], []⟩])
     (.ret))))
theorem vc15 {args : List AV} {L : List (Nat × Ob)} {R : AV → List (Nat × Ob) → Prop} (ha : args.length ≤ 14) (hL : (L.map (·.1)).Nodup)
    (h : ev Go.Proofs.Tryd.prog ⟨14, L.map (·.1)⟩ ac15 (retQ Go.Proofs.Tryd.prog [(ResultVar.cell 2 25), (ResultVar.cell 3 27)] R) ⟨argT args, hpOf L, Us.of (L.map (·.1))⟩) : ACall Go.Proofs.Tryd.prog 15 args L R :=
  acallA (by kernel_rfl) 14 [(3, [⟨0, [5], [], [], [4, 5]⟩, ⟨1, [], [5], [], [3, 4, 5]⟩, ⟨2, [5], [5], [], [3, 4, 5]⟩, ⟨3, [], [5], [], [4, 5]⟩, ⟨4, [], [], [], [5]⟩, ⟨5, [], [], [], []⟩])] [(ResultVar.cell 2 25), (ResultVar.cell 3 27)] Go.Proofs.Tryd.func15 (by kernel_rfl) Go.Proofs.Tryd.ntmps15 (by kernel_rfl) ha hL (va_of_ev _ h)
theorem en15 : enters Go.Proofs.Tryd.prog 15 = true := by kernel_rfl
def ac3_l1 : ACode :=
  .seq (.seq (.reg [⟨none, some 63, (Op.move (Operand.tmp 11))⟩,
      ⟨none, some 64, (Op.binOp BinOp.lss 3 (Operand.tmp 63) (Operand.const (Value.int IntKind.i64 8)) 3)⟩])
   (.cond (Operand.tmp 64) (.skip) (.exit 2)))
  (.seq (.block 3 (.seq (.reg [⟨none, some 68, (Op.load 25 (Operand.tmp 5))⟩,
        ⟨none, some 69, (Op.fieldAddr 35 (Operand.tmp 10) 0)⟩,
        ⟨none, some 70, (Op.load 9 (Operand.tmp 69))⟩,
        ⟨none, some 71, (Op.move (Operand.tmp 11))⟩,
        ⟨none, some 72, (Op.call ⟨(Callee.value (Operand.func 19)), #[(Operand.tmp 68), (Operand.tmp 70), (Operand.tmp 71)], #[25, 9, 3]⟩)⟩,
        ⟨none, some 67, (Op.move (Operand.tmp 72))⟩,
        ⟨none, some 73, (Op.extract (Operand.tmp 67) 0)⟩,
        ⟨none, some 74, (Op.extract (Operand.tmp 67) 1)⟩,
        ⟨none, some 12, (Op.assign (Operand.tmp 73))⟩,
        ⟨none, some 13, (Op.assign (Operand.tmp 74))⟩])
     (.seq (.reg [⟨none, some 75, (Op.fieldAddr 35 (Operand.tmp 10) 1)⟩,
         ⟨none, some 76, (Op.load 3 (Operand.tmp 75))⟩,
         ⟨none, some 77, (Op.binOp BinOp.eql 3 (Operand.tmp 76) (Operand.const (Value.int IntKind.i64 1)) 3)⟩,
         ⟨none, some 78, (Op.move (Operand.tmp 77))⟩,
         ⟨some (78, true), some 79, (Op.fieldAddr 35 (Operand.tmp 10) 0)⟩,
         ⟨some (78, true), some 80, (Op.load 9 (Operand.tmp 79))⟩,
         ⟨some (78, true), some 81, (Op.fieldAddr 27 (Operand.tmp 4) 1)⟩,
         ⟨some (78, true), some 82, (Op.load 9 (Operand.tmp 81))⟩,
         ⟨some (78, true), some 83, (Op.binOp BinOp.eql 9 (Operand.tmp 80) (Operand.tmp 82) 9)⟩,
         ⟨none, some 84, (Op.pick (Operand.tmp 78) (Operand.tmp 83) (Operand.const (Value.bool false)))⟩,
         ⟨none, some 14, (Op.assign (Operand.tmp 84))⟩])
      (.seq (.reg [⟨none, some 85, (Op.move (Operand.tmp 12))⟩,
          ⟨none, some 86, (Op.move (Operand.tmp 11))⟩,
          ⟨none, some 87, (Op.fieldAddr 35 (Operand.tmp 10) 3)⟩,
          ⟨none, some 88, (Op.indexAddr 33 (Operand.tmp 87) (Operand.tmp 86))⟩,
          ⟨none, some 89, (Op.load 9 (Operand.tmp 88))⟩,
          ⟨none, some 90, (Op.binOp BinOp.neq 9 (Operand.tmp 85) (Operand.tmp 89) 9)⟩,
          ⟨none, some 91, (Op.move (Operand.tmp 90))⟩,
          ⟨some (91, true), some 92, (Op.move (Operand.tmp 14))⟩,
          ⟨some (91, true), some 93, (Op.unOp UnOp.not 4 (Operand.tmp 92))⟩,
          ⟨none, some 94, (Op.pick (Operand.tmp 91) (Operand.tmp 93) (Operand.const (Value.bool false)))⟩,
          ⟨none, some 95, (Op.move (Operand.tmp 94))⟩,
          ⟨some (95, true), some 96, (Op.move (Operand.tmp 13))⟩,
          ⟨some (95, true), some 97, (Op.binOp BinOp.eql 3 (Operand.tmp 96) (Operand.const (Value.int IntKind.i64 0)) 3)⟩,
          ⟨none, some 98, (Op.pick (Operand.tmp 95) (Operand.tmp 97) (Operand.const (Value.bool false)))⟩])
       (.cond (Operand.tmp 98) (.seq (.reg [⟨none, some 2, (Op.assign (Operand.const (Value.bool false)))⟩])
         (.ret)) (.skip))))))
   (.reg [⟨none, some 65, (Op.move (Operand.tmp 11))⟩,
      ⟨none, some 66, (Op.binOp BinOp.add 3 (Operand.tmp 65) (Operand.const (Value.int IntKind.i64 1)) 3)⟩,
      ⟨none, some 11, (Op.assign (Operand.tmp 66))⟩]))
def ac3_l0 : ACode :=
  .seq (.seq (.reg [⟨none, some 51, (Op.move (Operand.tmp 9))⟩,
      ⟨none, some 52, (Op.fieldAddr 25 (Operand.tmp 3) 0)⟩,
      ⟨none, some 53, (Op.load 23 (Operand.tmp 52))⟩,
      ⟨none, some 54, (Op.call ⟨(Callee.builtin Builtin.len), #[(Operand.tmp 53)], #[23]⟩)⟩,
      ⟨none, some 55, (Op.binOp BinOp.lss 3 (Operand.tmp 51) (Operand.tmp 54) 3)⟩])
   (.cond (Operand.tmp 55) (.skip) (.exit 0)))
  (.seq (.block 1 (.seq (.reg [⟨none, some 58, (Op.fieldAddr 25 (Operand.tmp 3) 0)⟩,
        ⟨none, some 59, (Op.load 23 (Operand.tmp 58))⟩,
        ⟨none, some 60, (Op.move (Operand.tmp 9))⟩,
        ⟨none, some 61, (Op.indexAddr 23 (Operand.tmp 59) (Operand.tmp 60))⟩,
        ⟨none, some 62, (Op.load 35 (Operand.tmp 61))⟩,
        ⟨none, some 10, (Op.alloc 35)⟩,
        ⟨none, none, (Op.store 35 (Operand.tmp 10) (Operand.tmp 62))⟩])
     (.seq (.reg [⟨none, some 11, (Op.assign (Operand.const (Value.int IntKind.i64 0)))⟩])
      (.block 2 (.loop ac3_l1)))))
   (.reg [⟨none, some 56, (Op.move (Operand.tmp 9))⟩,
      ⟨none, some 57, (Op.binOp BinOp.add 3 (Operand.tmp 56) (Operand.const (Value.int IntKind.i64 1)) 3)⟩,
      ⟨none, some 9, (Op.assign (Operand.tmp 57))⟩]))
def ac3_l2 : ACode :=
  .seq (.seq (.reg [⟨none, some 106, (Op.move (Operand.tmp 15))⟩,
      ⟨none, some 107, (Op.binOp BinOp.lss 3 (Operand.tmp 106) (Operand.const (Value.int IntKind.i64 8)) 3)⟩])
   (.cond (Operand.tmp 107) (.skip) (.exit 4)))
  (.seq (.block 5 (.seq (.reg [⟨none, some 111, (Op.load 25 (Operand.tmp 5))⟩,
        ⟨none, some 112, (Op.fieldAddr 27 (Operand.tmp 4) 1)⟩,
        ⟨none, some 113, (Op.load 9 (Operand.tmp 112))⟩,
        ⟨none, some 114, (Op.move (Operand.tmp 15))⟩,
        ⟨none, some 115, (Op.call ⟨(Callee.value (Operand.func 19)), #[(Operand.tmp 111), (Operand.tmp 113), (Operand.tmp 114)], #[25, 9, 3]⟩)⟩,
        ⟨none, some 110, (Op.move (Operand.tmp 115))⟩,
        ⟨none, some 116, (Op.extract (Operand.tmp 110) 0)⟩,
        ⟨none, some 117, (Op.extract (Operand.tmp 110) 1)⟩,
        ⟨none, some 16, (Op.assign (Operand.tmp 116))⟩,
        ⟨none, some 17, (Op.assign (Operand.tmp 117))⟩])
     (.seq (.reg [⟨none, some 119, (Op.load 25 (Operand.tmp 5))⟩,
         ⟨none, some 120, (Op.fieldAddr 27 (Operand.tmp 4) 2)⟩,
         ⟨none, some 121, (Op.load 9 (Operand.tmp 120))⟩,
         ⟨none, some 122, (Op.move (Operand.tmp 15))⟩,
         ⟨none, some 123, (Op.call ⟨(Callee.value (Operand.func 19)), #[(Operand.tmp 119), (Operand.tmp 121), (Operand.tmp 122)], #[25, 9, 3]⟩)⟩,
         ⟨none, some 118, (Op.move (Operand.tmp 123))⟩,
         ⟨none, some 124, (Op.extract (Operand.tmp 118) 0)⟩,
         ⟨none, some 125, (Op.extract (Operand.tmp 118) 1)⟩,
         ⟨none, some 18, (Op.assign (Operand.tmp 124))⟩,
         ⟨none, some 19, (Op.assign (Operand.tmp 125))⟩])
      (.seq (.reg [⟨none, some 126, (Op.move (Operand.tmp 17))⟩,
          ⟨none, some 127, (Op.binOp BinOp.neq 3 (Operand.tmp 126) (Operand.const (Value.int IntKind.i64 0)) 3)⟩,
          ⟨none, some 128, (Op.move (Operand.tmp 127))⟩,
          ⟨some (128, false), some 129, (Op.move (Operand.tmp 19))⟩,
          ⟨some (128, false), some 130, (Op.binOp BinOp.neq 3 (Operand.tmp 129) (Operand.const (Value.int IntKind.i64 0)) 3)⟩,
          ⟨none, some 131, (Op.pick (Operand.tmp 128) (Operand.const (Value.bool true)) (Operand.tmp 130))⟩,
          ⟨none, some 132, (Op.move (Operand.tmp 131))⟩,
          ⟨some (132, false), some 133, (Op.move (Operand.tmp 16))⟩,
          ⟨some (132, false), some 134, (Op.move (Operand.tmp 18))⟩,
          ⟨some (132, false), some 135, (Op.binOp BinOp.neq 9 (Operand.tmp 133) (Operand.tmp 134) 9)⟩,
          ⟨none, some 136, (Op.pick (Operand.tmp 132) (Operand.const (Value.bool true)) (Operand.tmp 135))⟩])
       (.cond (Operand.tmp 136) (.seq (.reg [⟨none, some 2, (Op.assign (Operand.const (Value.bool false)))⟩])
         (.ret)) (.skip))))))
   (.reg [⟨none, some 108, (Op.move (Operand.tmp 15))⟩,
      ⟨none, some 109, (Op.binOp BinOp.add 3 (Operand.tmp 108) (Operand.const (Value.int IntKind.i64 1)) 3)⟩,
      ⟨none, some 15, (Op.assign (Operand.tmp 109))⟩]))
/-- laws.FnBookSnap -/
def ac3 : ACode :=
  .seq (.reg [⟨none, some 2, (Op.assign (Operand.const (Value.bool false)))⟩])
  (.seq (.seq (.reg [⟨none, some 20, (Op.move (Operand.tmp 0))⟩,
       ⟨none, some 21, (Op.call ⟨(Callee.builtin Builtin.len), #[(Operand.tmp 20)], #[22]⟩)⟩,
       ⟨none, some 22, (Op.binOp BinOp.gtr 3 (Operand.tmp 21) (Operand.const (Value.int IntKind.i64 1048576)) 3)⟩])
    (.cond (Operand.tmp 22) (.seq (.reg [⟨none, some 2, (Op.assign (Operand.const (Value.bool true)))⟩])
      (.ret)) (.skip)))
   (.seq (.reg [⟨none, some 24, (Op.move (Operand.tmp 0))⟩,
       ⟨none, some 25, (Op.call ⟨(Callee.value (Operand.func 15)), #[(Operand.tmp 24)], #[22]⟩)⟩,
       ⟨none, some 23, (Op.move (Operand.tmp 25))⟩,
       ⟨none, some 26, (Op.extract (Operand.tmp 23) 0)⟩,
       ⟨none, some 27, (Op.extract (Operand.tmp 23) 1)⟩,
       ⟨none, some 3, (Op.alloc 25)⟩,
       ⟨none, some 4, (Op.alloc 27)⟩,
       ⟨none, none, (Op.store 25 (Operand.tmp 3) (Operand.tmp 26))⟩,
       ⟨none, none, (Op.store 27 (Operand.tmp 4) (Operand.tmp 27))⟩])
    (.seq (.reg [⟨none, some 29, (Op.load 25 (Operand.tmp 3))⟩,
        ⟨none, some 30, (Op.load 27 (Operand.tmp 4))⟩,
        ⟨none, some 31, (Op.call ⟨(Callee.value (Operand.func 16)), #[(Operand.tmp 29), (Operand.tmp 30)], #[25, 27]⟩)⟩,
        ⟨none, some 28, (Op.move (Operand.tmp 31))⟩,
        ⟨none, some 32, (Op.extract (Operand.tmp 28) 0)⟩,
        ⟨none, some 33, (Op.extract (Operand.tmp 28) 1)⟩,
        ⟨none, some 5, (Op.alloc 25)⟩,
        ⟨none, none, (Op.store 25 (Operand.tmp 5) (Operand.tmp 32))⟩,
        ⟨none, some 6, (Op.assign (Operand.tmp 33))⟩])
     (.seq (.reg [⟨none, some 35, (Op.load 25 (Operand.tmp 3))⟩,
         ⟨none, some 36, (Op.load 27 (Operand.tmp 4))⟩,
         ⟨none, some 37, (Op.call ⟨(Callee.value (Operand.func 17)), #[(Operand.tmp 35), (Operand.tmp 36)], #[25, 27]⟩)⟩,
         ⟨none, some 34, (Op.move (Operand.tmp 37))⟩,
         ⟨none, some 38, (Op.extract (Operand.tmp 34) 0)⟩,
         ⟨none, some 39, (Op.extract (Operand.tmp 34) 1)⟩,
         ⟨none, some 7, (Op.alloc 25)⟩,
         ⟨none, none, (Op.store 25 (Operand.tmp 7) (Operand.tmp 38))⟩,
         ⟨none, some 8, (Op.assign (Operand.tmp 39))⟩])
      (.seq (.seq (.reg [⟨none, some 40, (Op.move (Operand.tmp 6))⟩,
           ⟨none, some 41, (Op.move (Operand.tmp 8))⟩,
           ⟨none, some 42, (Op.binOp BinOp.neq 3 (Operand.tmp 40) (Operand.tmp 41) 3)⟩,
           ⟨none, some 43, (Op.move (Operand.tmp 42))⟩,
           ⟨some (43, false), some 44, (Op.load 25 (Operand.tmp 3))⟩,
           ⟨some (43, false), some 45, (Op.call ⟨(Callee.value (Operand.func 18)), #[(Operand.tmp 44)], #[25]⟩)⟩,
           ⟨some (43, false), some 46, (Op.unOp UnOp.not 4 (Operand.tmp 45))⟩,
           ⟨none, some 47, (Op.pick (Operand.tmp 43) (Operand.const (Value.bool true)) (Operand.tmp 46))⟩])
        (.cond (Operand.tmp 47) (.seq (.reg [⟨none, some 48, (Op.move (Operand.tmp 6))⟩,
             ⟨none, some 49, (Op.move (Operand.tmp 8))⟩,
             ⟨none, some 50, (Op.binOp BinOp.eql 3 (Operand.tmp 48) (Operand.tmp 49) 3)⟩,
             ⟨none, some 2, (Op.assign (Operand.tmp 50))⟩])
          (.ret)) (.skip)))
       (.seq (.seq (.reg [⟨none, some 9, (Op.assign (Operand.const (Value.int IntKind.i64 0)))⟩])
         (.block 0 (.loop ac3_l0)))
        (.seq (.seq (.reg [⟨none, some 99, (Op.move (Operand.tmp 6))⟩,
             ⟨none, some 100, (Op.binOp BinOp.neq 3 (Operand.tmp 99) (Operand.const (Value.int IntKind.i64 0)) 3)⟩,
             ⟨none, some 101, (Op.move (Operand.tmp 100))⟩,
             ⟨some (101, false), some 102, (Op.fieldAddr 27 (Operand.tmp 4) 0)⟩,
             ⟨some (101, false), some 103, (Op.load 3 (Operand.tmp 102))⟩,
             ⟨some (101, false), some 104, (Op.binOp BinOp.lss 3 (Operand.tmp 103) (Operand.const (Value.int IntKind.i64 4)) 3)⟩,
             ⟨none, some 105, (Op.pick (Operand.tmp 101) (Operand.const (Value.bool true)) (Operand.tmp 104))⟩])
          (.cond (Operand.tmp 105) (.seq (.reg [⟨none, some 2, (Op.assign (Operand.const (Value.bool true)))⟩])
            (.ret)) (.skip)))
         (.seq (.seq (.reg [⟨none, some 15, (Op.assign (Operand.const (Value.int IntKind.i64 0)))⟩])
           (.block 4 (.loop ac3_l2)))
          (.seq (.reg [⟨none, some 2, (Op.assign (Operand.const (Value.bool true)))⟩])
           (.ret))))))))))
theorem vc3 {args : List AV} {L : List (Nat × Ob)} {R : AV → List (Nat × Ob) → Prop} (ha : args.length ≤ 137) (hL : (L.map (·.1)).Nodup)
    (h : ev Go.Proofs.Tryd.prog ⟨137, L.map (·.1)⟩ ac3 (retQ Go.Proofs.Tryd.prog [(ResultVar.tmp 2)] R) ⟨argT args, hpOf L, Us.of (L.map (·.1))⟩) : ACall Go.Proofs.Tryd.prog 3 args L R :=
  acallA (by kernel_rfl) 137 [] [(ResultVar.tmp 2)] Go.Proofs.Tryd.func3 (by kernel_rfl) Go.Proofs.Tryd.ntmps3 (by kernel_rfl) ha hL (va_of_ev _ h)
theorem en3 : enters Go.Proofs.Tryd.prog 3 = true := by kernel_rfl
def ac4_l1 : ACode :=
  .seq (.seq (.reg [⟨none, some 106, (Op.move (Operand.tmp 16))⟩,
      ⟨none, some 107, (Op.fieldAddr 25 (Operand.tmp 3) 0)⟩,
      ⟨none, some 108, (Op.load 23 (Operand.tmp 107))⟩,
      ⟨none, some 109, (Op.call ⟨(Callee.builtin Builtin.len), #[(Operand.tmp 108)], #[23]⟩)⟩,
      ⟨none, some 110, (Op.binOp BinOp.lss 3 (Operand.tmp 106) (Operand.tmp 109) 3)⟩])
   (.cond (Operand.tmp 110) (.skip) (.exit 2)))
  (.seq (.block 3 (.draw [⟨⟨none, some 113, (Op.move (Operand.tmp 15))⟩, [], [], []⟩,
       ⟨⟨none, some 114, (Op.move (Operand.tmp 113))⟩, [], [], []⟩,
       ⟨⟨some (114, false), some 115, (Op.fieldAddr 25 (Operand.tmp 3) 0)⟩, [], [], []⟩,
       ⟨⟨some (114, false), some 116, (Op.load 23 (Operand.tmp 115))⟩, [3], [], []⟩,
       ⟨⟨some (114, false), some 117, (Op.move (Operand.tmp 16))⟩, [], [3], []⟩,
       ⟨⟨some (114, false), some 118, (Op.indexAddr 23 (Operand.tmp 116) (Operand.tmp 117))⟩, [], [], []⟩,
       ⟨⟨some (114, false), some 119, (Op.fieldAddr 35 (Operand.tmp 118) 2)⟩, [], [], []⟩,
       ⟨⟨some (114, false), some 120, (Op.load 9 (Operand.tmp 119))⟩, [], [], []⟩,
       ⟨⟨some (114, false), some 121, (Op.fieldAddr 25 (Operand.tmp 3) 0)⟩, [], [3], []⟩,
       ⟨⟨some (114, false), some 122, (Op.load 23 (Operand.tmp 121))⟩, [3], [3], []⟩,
       ⟨⟨some (114, false), some 123, (Op.move (Operand.tmp 12))⟩, [], [3], []⟩,
       ⟨⟨some (114, false), some 124, (Op.indexAddr 23 (Operand.tmp 122) (Operand.tmp 123))⟩, [], [3], []⟩,
       ⟨⟨some (114, false), some 125, (Op.fieldAddr 35 (Operand.tmp 124) 0)⟩, [], [3], []⟩,
       ⟨⟨some (114, false), some 126, (Op.load 9 (Operand.tmp 125))⟩, [], [3], []⟩,
       ⟨⟨some (114, false), some 127, (Op.binOp BinOp.eql 9 (Operand.tmp 120) (Operand.tmp 126) 9)⟩, [], [], []⟩,
       ⟨⟨none, some 128, (Op.pick (Operand.tmp 114) (Operand.const (Value.bool true)) (Operand.tmp 127))⟩, [], [], []⟩,
       ⟨⟨none, some 15, (Op.assign (Operand.tmp 128))⟩, [], [], []⟩]))
   (.reg [⟨none, some 111, (Op.move (Operand.tmp 16))⟩,
      ⟨none, some 112, (Op.binOp BinOp.add 3 (Operand.tmp 111) (Operand.const (Value.int IntKind.i64 1)) 3)⟩,
      ⟨none, some 16, (Op.assign (Operand.tmp 112))⟩]))
def ac4_l0 : ACode :=
  .seq (.seq (.reg [⟨none, some 87, (Op.move (Operand.tmp 12))⟩,
      ⟨none, some 88, (Op.fieldAddr 25 (Operand.tmp 3) 0)⟩,
      ⟨none, some 89, (Op.load 23 (Operand.tmp 88))⟩,
      ⟨none, some 90, (Op.call ⟨(Callee.builtin Builtin.len), #[(Operand.tmp 89)], #[23]⟩)⟩,
      ⟨none, some 91, (Op.binOp BinOp.lss 3 (Operand.tmp 87) (Operand.tmp 90) 3)⟩])
   (.cond (Operand.tmp 91) (.skip) (.exit 0)))
  (.seq (.block 1 (.seq (.draw [⟨⟨none, some 95, (Op.load 25 (Operand.tmp 3))⟩, [3], [], []⟩,
        ⟨⟨none, some 96, (Op.fieldAddr 25 (Operand.tmp 3) 0)⟩, [], [3], []⟩,
        ⟨⟨none, some 97, (Op.load 23 (Operand.tmp 96))⟩, [3], [3], []⟩,
        ⟨⟨none, some 98, (Op.move (Operand.tmp 12))⟩, [], [3], []⟩,
        ⟨⟨none, some 99, (Op.indexAddr 23 (Operand.tmp 97) (Operand.tmp 98))⟩, [], [3], []⟩,
        ⟨⟨none, some 100, (Op.fieldAddr 35 (Operand.tmp 99) 0)⟩, [], [3], []⟩,
        ⟨⟨none, some 101, (Op.load 9 (Operand.tmp 100))⟩, [], [3], []⟩,
        ⟨⟨none, some 102, (Op.build 27 #[(0, (Operand.const (Value.int IntKind.i64 2))), (1, (Operand.tmp 101))])⟩, [], [3], []⟩,
        ⟨⟨none, some 103, (Op.call ⟨(Callee.value (Operand.func 16)), #[(Operand.tmp 95), (Operand.tmp 102)], #[25, 27]⟩)⟩, [], [], [(13, (Op.alloc 25))]⟩,
        ⟨⟨none, some 94, (Op.move (Operand.tmp 103))⟩, [], [], []⟩,
        ⟨⟨none, some 104, (Op.extract (Operand.tmp 94) 0)⟩, [], [], []⟩,
        ⟨⟨none, some 105, (Op.extract (Operand.tmp 94) 1)⟩, [], [], []⟩,
        ⟨⟨none, some 13, (Op.alloc 25)⟩, [], [3], []⟩,
        ⟨⟨none, none, (Op.store 25 (Operand.tmp 13) (Operand.tmp 104))⟩, [], [], []⟩,
        ⟨⟨none, some 14, (Op.assign (Operand.tmp 105))⟩, [], [], []⟩])
     (.seq (.reg [⟨none, some 15, (Op.assign (Operand.const (Value.bool false)))⟩])
      (.seq (.seq (.reg [⟨none, some 16, (Op.assign (Operand.const (Value.int IntKind.i64 0)))⟩])
        (.block 2 (.loop ac4_l1)))
       (.seq (.reg [⟨none, some 129, (Op.move (Operand.tmp 14))⟩,
           ⟨none, some 130, (Op.binOp BinOp.eql 3 (Operand.tmp 129) (Operand.const (Value.int IntKind.i64 6)) 3)⟩,
           ⟨none, some 131, (Op.move (Operand.tmp 15))⟩,
           ⟨none, some 132, (Op.binOp BinOp.neq 4 (Operand.tmp 130) (Operand.tmp 131) 4)⟩,
           ⟨none, some 133, (Op.move (Operand.tmp 132))⟩,
           ⟨some (133, false), some 134, (Op.move (Operand.tmp 14))⟩,
           ⟨some (133, false), some 135, (Op.binOp BinOp.neq 3 (Operand.tmp 134) (Operand.const (Value.int IntKind.i64 6)) 3)⟩,
           ⟨some (133, false), some 136, (Op.move (Operand.tmp 135))⟩,
           ⟨some (136, true), some 137, (Op.move (Operand.tmp 14))⟩,
           ⟨some (136, true), some 138, (Op.binOp BinOp.neq 3 (Operand.tmp 137) (Operand.const (Value.int IntKind.i64 0)) 3)⟩,
           ⟨some (133, false), some 139, (Op.pick (Operand.tmp 136) (Operand.tmp 138) (Operand.const (Value.bool false)))⟩,
           ⟨none, some 140, (Op.pick (Operand.tmp 133) (Operand.const (Value.bool true)) (Operand.tmp 139))⟩])
        (.cond (Operand.tmp 140) (.seq (.reg [⟨none, some 2, (Op.assign (Operand.const (Value.bool false)))⟩])
          (.ret)) (.skip)))))))
   (.reg [⟨none, some 92, (Op.move (Operand.tmp 12))⟩,
      ⟨none, some 93, (Op.binOp BinOp.add 3 (Operand.tmp 92) (Operand.const (Value.int IntKind.i64 1)) 3)⟩,
      ⟨none, some 12, (Op.assign (Operand.tmp 93))⟩]))
/-- laws.FnBookKill -/
def ac4 : ACode :=
  .seq (.reg [⟨none, some 2, (Op.assign (Operand.const (Value.bool false)))⟩])
  (.seq (.seq (.reg [⟨none, some 17, (Op.move (Operand.tmp 0))⟩,
       ⟨none, some 18, (Op.call ⟨(Callee.builtin Builtin.len), #[(Operand.tmp 17)], #[22]⟩)⟩,
       ⟨none, some 19, (Op.binOp BinOp.gtr 3 (Operand.tmp 18) (Operand.const (Value.int IntKind.i64 1048576)) 3)⟩])
    (.cond (Operand.tmp 19) (.seq (.reg [⟨none, some 2, (Op.assign (Operand.const (Value.bool true)))⟩])
      (.ret)) (.skip)))
   (.seq (.reg [⟨none, some 21, (Op.move (Operand.tmp 0))⟩,
       ⟨none, some 22, (Op.call ⟨(Callee.value (Operand.func 15)), #[(Operand.tmp 21)], #[22]⟩)⟩,
       ⟨none, some 20, (Op.move (Operand.tmp 22))⟩,
       ⟨none, some 23, (Op.extract (Operand.tmp 20) 0)⟩,
       ⟨none, some 24, (Op.extract (Operand.tmp 20) 1)⟩,
       ⟨none, some 3, (Op.alloc 25)⟩,
       ⟨none, some 4, (Op.alloc 27)⟩,
       ⟨none, none, (Op.store 25 (Operand.tmp 3) (Operand.tmp 23))⟩,
       ⟨none, none, (Op.store 27 (Operand.tmp 4) (Operand.tmp 24))⟩])
    (.seq (.reg [⟨none, some 26, (Op.load 25 (Operand.tmp 3))⟩,
        ⟨none, some 27, (Op.load 27 (Operand.tmp 4))⟩,
        ⟨none, some 28, (Op.call ⟨(Callee.value (Operand.func 16)), #[(Operand.tmp 26), (Operand.tmp 27)], #[25, 27]⟩)⟩,
        ⟨none, some 25, (Op.move (Operand.tmp 28))⟩,
        ⟨none, some 29, (Op.extract (Operand.tmp 25) 0)⟩,
        ⟨none, some 30, (Op.extract (Operand.tmp 25) 1)⟩,
        ⟨none, some 5, (Op.alloc 25)⟩,
        ⟨none, none, (Op.store 25 (Operand.tmp 5) (Operand.tmp 29))⟩,
        ⟨none, some 6, (Op.assign (Operand.tmp 30))⟩])
     (.seq (.reg [⟨none, some 32, (Op.load 25 (Operand.tmp 3))⟩,
         ⟨none, some 33, (Op.load 27 (Operand.tmp 4))⟩,
         ⟨none, some 34, (Op.call ⟨(Callee.value (Operand.func 17)), #[(Operand.tmp 32), (Operand.tmp 33)], #[25, 27]⟩)⟩,
         ⟨none, some 31, (Op.move (Operand.tmp 34))⟩,
         ⟨none, some 35, (Op.extract (Operand.tmp 31) 0)⟩,
         ⟨none, some 36, (Op.extract (Operand.tmp 31) 1)⟩,
         ⟨none, some 7, (Op.alloc 25)⟩,
         ⟨none, none, (Op.store 25 (Operand.tmp 7) (Operand.tmp 35))⟩,
         ⟨none, some 8, (Op.assign (Operand.tmp 36))⟩])
      (.seq (.seq (.reg [⟨none, some 37, (Op.move (Operand.tmp 6))⟩,
           ⟨none, some 38, (Op.move (Operand.tmp 8))⟩,
           ⟨none, some 39, (Op.binOp BinOp.neq 3 (Operand.tmp 37) (Operand.tmp 38) 3)⟩,
           ⟨none, some 40, (Op.move (Operand.tmp 39))⟩,
           ⟨some (40, false), some 41, (Op.load 25 (Operand.tmp 3))⟩,
           ⟨some (40, false), some 42, (Op.call ⟨(Callee.value (Operand.func 18)), #[(Operand.tmp 41)], #[25]⟩)⟩,
           ⟨some (40, false), some 43, (Op.unOp UnOp.not 4 (Operand.tmp 42))⟩,
           ⟨none, some 44, (Op.pick (Operand.tmp 40) (Operand.const (Value.bool true)) (Operand.tmp 43))⟩])
        (.cond (Operand.tmp 44) (.seq (.reg [⟨none, some 45, (Op.move (Operand.tmp 6))⟩,
             ⟨none, some 46, (Op.move (Operand.tmp 8))⟩,
             ⟨none, some 47, (Op.binOp BinOp.eql 3 (Operand.tmp 45) (Operand.tmp 46) 3)⟩,
             ⟨none, some 2, (Op.assign (Operand.tmp 47))⟩])
          (.ret)) (.skip)))
       (.seq (.reg [⟨none, some 48, (Op.fieldAddr 27 (Operand.tmp 4) 2)⟩,
           ⟨none, some 49, (Op.load 9 (Operand.tmp 48))⟩,
           ⟨none, some 9, (Op.assign (Operand.tmp 49))⟩])
        (.seq (.seq (.reg [⟨none, some 50, (Op.fieldAddr 27 (Operand.tmp 4) 0)⟩,
             ⟨none, some 51, (Op.load 3 (Operand.tmp 50))⟩,
             ⟨none, some 52, (Op.binOp BinOp.eql 3 (Operand.tmp 51) (Operand.const (Value.int IntKind.i64 1)) 3)⟩])
          (.cond (Operand.tmp 52) (.reg [⟨none, some 53, (Op.fieldAddr 27 (Operand.tmp 4) 1)⟩,
              ⟨none, some 54, (Op.load 9 (Operand.tmp 53))⟩,
              ⟨none, some 9, (Op.assign (Operand.tmp 54))⟩]) (.skip)))
         (.seq (.seq (.reg [⟨none, some 55, (Op.move (Operand.tmp 6))⟩,
              ⟨none, some 56, (Op.binOp BinOp.eql 3 (Operand.tmp 55) (Operand.const (Value.int IntKind.i64 0)) 3)⟩,
              ⟨none, some 57, (Op.move (Operand.tmp 56))⟩,
              ⟨some (57, true), some 58, (Op.fieldAddr 27 (Operand.tmp 4) 0)⟩,
              ⟨some (57, true), some 59, (Op.load 3 (Operand.tmp 58))⟩,
              ⟨some (57, true), some 60, (Op.binOp BinOp.eql 3 (Operand.tmp 59) (Operand.const (Value.int IntKind.i64 1)) 3)⟩,
              ⟨some (57, true), some 61, (Op.move (Operand.tmp 60))⟩,
              ⟨some (61, false), some 62, (Op.fieldAddr 27 (Operand.tmp 4) 0)⟩,
              ⟨some (61, false), some 63, (Op.load 3 (Operand.tmp 62))⟩,
              ⟨some (61, false), some 64, (Op.binOp BinOp.eql 3 (Operand.tmp 63) (Operand.const (Value.int IntKind.i64 4)) 3)⟩,
              ⟨some (57, true), some 65, (Op.pick (Operand.tmp 61) (Operand.const (Value.bool true)) (Operand.tmp 64))⟩,
              ⟨some (57, true), some 66, (Op.move (Operand.tmp 65))⟩,
              ⟨some (66, false), some 67, (Op.fieldAddr 27 (Operand.tmp 4) 0)⟩,
              ⟨some (66, false), some 68, (Op.load 3 (Operand.tmp 67))⟩,
              ⟨some (66, false), some 69, (Op.binOp BinOp.eql 3 (Operand.tmp 68) (Operand.const (Value.int IntKind.i64 5)) 3)⟩,
              ⟨some (57, true), some 70, (Op.pick (Operand.tmp 66) (Operand.const (Value.bool true)) (Operand.tmp 69))⟩,
              ⟨none, some 71, (Op.pick (Operand.tmp 57) (Operand.tmp 70) (Operand.const (Value.bool false)))⟩])
           (.cond (Operand.tmp 71) (.seq (.reg [⟨none, some 73, (Op.load 25 (Operand.tmp 5))⟩,
                ⟨none, some 74, (Op.move (Operand.tmp 9))⟩,
                ⟨none, some 75, (Op.build 27 #[(0, (Operand.const (Value.int IntKind.i64 2))), (1, (Operand.tmp 74))])⟩,
                ⟨none, some 76, (Op.call ⟨(Callee.value (Operand.func 16)), #[(Operand.tmp 73), (Operand.tmp 75)], #[25, 27]⟩)⟩,
                ⟨none, some 72, (Op.move (Operand.tmp 76))⟩,
                ⟨none, some 77, (Op.extract (Operand.tmp 72) 0)⟩,
                ⟨none, some 78, (Op.extract (Operand.tmp 72) 1)⟩,
                ⟨none, some 10, (Op.alloc 25)⟩,
                ⟨none, none, (Op.store 25 (Operand.tmp 10) (Operand.tmp 77))⟩,
                ⟨none, some 11, (Op.assign (Operand.tmp 78))⟩])
             (.seq (.reg [⟨none, some 79, (Op.move (Operand.tmp 11))⟩,
                 ⟨none, some 80, (Op.binOp BinOp.neq 3 (Operand.tmp 79) (Operand.const (Value.int IntKind.i64 0)) 3)⟩,
                 ⟨none, some 81, (Op.move (Operand.tmp 80))⟩,
                 ⟨some (81, false), some 82, (Op.load 25 (Operand.tmp 10))⟩,
                 ⟨some (81, false), some 83, (Op.load 25 (Operand.tmp 3))⟩,
                 ⟨some (81, false), some 84, (Op.call ⟨(Callee.value (Operand.func 20)), #[(Operand.tmp 82), (Operand.tmp 83)], #[25, 25]⟩)⟩,
                 ⟨some (81, false), some 85, (Op.unOp UnOp.not 4 (Operand.tmp 84))⟩,
                 ⟨none, some 86, (Op.pick (Operand.tmp 81) (Operand.const (Value.bool true)) (Operand.tmp 85))⟩])
              (.cond (Operand.tmp 86) (.seq (.reg [⟨none, some 2, (Op.assign (Operand.const (Value.bool false)))⟩])
                (.ret)) (.skip)))) (.skip)))
          (.seq (.seq (.reg [⟨none, some 12, (Op.assign (Operand.const (Value.int IntKind.i64 0)))⟩])
            (.block 0 (.loop ac4_l0)))
           (.seq (.reg [⟨none, some 2, (Op.assign (Operand.const (Value.bool true)))⟩])
            (.ret)))))))))))
theorem vc4 {args : List AV} {L : List (Nat × Ob)} {R : AV → List (Nat × Ob) → Prop} (ha : args.length ≤ 141) (hL : (L.map (·.1)).Nodup)
    (h : ev Go.Proofs.Tryd.prog ⟨141, L.map (·.1)⟩ ac4 (retQ Go.Proofs.Tryd.prog [(ResultVar.tmp 2)] R) ⟨argT args, hpOf L, Us.of (L.map (·.1))⟩) : ACall Go.Proofs.Tryd.prog 4 args L R :=
  acallA (by kernel_rfl) 141 [(18, [⟨0, [3], [], [], [8, 9, 10, 11, 13, 14]⟩, ⟨1, [], [3], [], [2, 4, 5, 6, 7, 8, 9, 10, 11, 13, 14]⟩, ⟨2, [3], [3], [], [4, 5, 6, 7, 8, 9, 10, 11, 13, 14]⟩, ⟨3, [], [3], [], [4, 5, 6, 7, 8, 9, 10, 11, 13, 14]⟩, ⟨4, [], [3], [], [5, 6, 7, 8, 9, 10, 11, 13, 14]⟩, ⟨5, [], [3], [], [6, 7, 8, 9, 10, 11, 13, 14]⟩, ⟨6, [], [3], [], [7, 8, 9, 10, 11, 13, 14]⟩, ⟨7, [], [3], [], [8, 9, 10, 11, 13, 14]⟩, ⟨8, [], [], [12], [9, 10, 11, 13, 14]⟩, ⟨9, [], [], [], [10, 11, 13, 14]⟩, ⟨10, [], [], [], [13, 14]⟩, ⟨11, [], [], [], [14]⟩, ⟨12, [], [3], [], [13, 14]⟩, ⟨13, [], [], [], [14]⟩, ⟨14, [], [], [], []⟩]), (23, [⟨0, [], [], [], [1, 2, 3, 4, 5, 6, 7, 8, 9, 10, 11, 12, 13, 14, 15, 16]⟩, ⟨1, [], [], [], [2, 3, 4, 5, 6, 7, 8, 9, 10, 11, 12, 13, 14, 15, 16]⟩, ⟨2, [], [], [], [3, 5, 6, 7, 14, 15, 16]⟩, ⟨3, [3], [], [], [5, 6, 7, 14, 15, 16]⟩, ⟨4, [], [3], [], [5, 6, 7, 14, 15, 16]⟩, ⟨5, [], [], [], [6, 7, 14, 15, 16]⟩, ⟨6, [], [], [], [7, 14, 15, 16]⟩, ⟨7, [], [], [], [14, 15, 16]⟩, ⟨8, [], [3], [], [9, 11, 12, 13, 14, 15, 16]⟩, ⟨9, [3], [3], [], [11, 12, 13, 14, 15, 16]⟩, ⟨10, [], [3], [], [11, 12, 13, 14, 15, 16]⟩, ⟨11, [], [3], [], [12, 13, 14, 15, 16]⟩, ⟨12, [], [3], [], [13, 14, 15, 16]⟩, ⟨13, [], [3], [], [14, 15, 16]⟩, ⟨14, [], [], [], [15, 16]⟩, ⟨15, [], [], [], [16]⟩, ⟨16, [], [], [], []⟩])] [(ResultVar.tmp 2)] Go.Proofs.Tryd.func4 (by kernel_rfl) Go.Proofs.Tryd.ntmps4 (by kernel_rfl) ha hL (va_of_ev _ h)
theorem en4 : enters Go.Proofs.Tryd.prog 4 = true := by kernel_rfl
/-- laws.FnBookOk -/
def ac5 : ACode :=
  .seq (.reg [⟨none, some 2, (Op.assign (Operand.const (Value.bool false)))⟩])
  (.seq (.seq (.reg [⟨none, some 11, (Op.move (Operand.tmp 0))⟩,
       ⟨none, some 12, (Op.call ⟨(Callee.builtin Builtin.len), #[(Operand.tmp 11)], #[22]⟩)⟩,
       ⟨none, some 13, (Op.binOp BinOp.gtr 3 (Operand.tmp 12) (Operand.const (Value.int IntKind.i64 1048576)) 3)⟩])
    (.cond (Operand.tmp 13) (.seq (.reg [⟨none, some 2, (Op.assign (Operand.const (Value.bool true)))⟩])
      (.ret)) (.skip)))
   (.seq (.reg [⟨none, some 15, (Op.move (Operand.tmp 0))⟩,
       ⟨none, some 16, (Op.call ⟨(Callee.value (Operand.func 15)), #[(Operand.tmp 15)], #[22]⟩)⟩,
       ⟨none, some 14, (Op.move (Operand.tmp 16))⟩,
       ⟨none, some 17, (Op.extract (Operand.tmp 14) 0)⟩,
       ⟨none, some 18, (Op.extract (Operand.tmp 14) 1)⟩,
       ⟨none, some 3, (Op.alloc 25)⟩,
       ⟨none, some 4, (Op.alloc 27)⟩,
       ⟨none, none, (Op.store 25 (Operand.tmp 3) (Operand.tmp 17))⟩,
       ⟨none, none, (Op.store 27 (Operand.tmp 4) (Operand.tmp 18))⟩])
    (.seq (.reg [⟨none, some 20, (Op.load 25 (Operand.tmp 3))⟩,
        ⟨none, some 21, (Op.load 27 (Operand.tmp 4))⟩,
        ⟨none, some 22, (Op.call ⟨(Callee.value (Operand.func 16)), #[(Operand.tmp 20), (Operand.tmp 21)], #[25, 27]⟩)⟩,
        ⟨none, some 19, (Op.move (Operand.tmp 22))⟩,
        ⟨none, some 23, (Op.extract (Operand.tmp 19) 0)⟩,
        ⟨none, some 24, (Op.extract (Operand.tmp 19) 1)⟩,
        ⟨none, some 5, (Op.alloc 25)⟩,
        ⟨none, none, (Op.store 25 (Operand.tmp 5) (Operand.tmp 23))⟩,
        ⟨none, some 6, (Op.assign (Operand.tmp 24))⟩])
     (.seq (.reg [⟨none, some 26, (Op.load 25 (Operand.tmp 3))⟩,
         ⟨none, some 27, (Op.load 27 (Operand.tmp 4))⟩,
         ⟨none, some 28, (Op.call ⟨(Callee.value (Operand.func 17)), #[(Operand.tmp 26), (Operand.tmp 27)], #[25, 27]⟩)⟩,
         ⟨none, some 25, (Op.move (Operand.tmp 28))⟩,
         ⟨none, some 29, (Op.extract (Operand.tmp 25) 0)⟩,
         ⟨none, some 30, (Op.extract (Operand.tmp 25) 1)⟩,
         ⟨none, some 7, (Op.alloc 25)⟩,
         ⟨none, none, (Op.store 25 (Operand.tmp 7) (Operand.tmp 29))⟩,
         ⟨none, some 8, (Op.assign (Operand.tmp 30))⟩])
      (.seq (.seq (.draw [⟨⟨none, some 31, (Op.move (Operand.tmp 6))⟩, [], [], []⟩,
           ⟨⟨none, some 32, (Op.move (Operand.tmp 8))⟩, [], [], []⟩,
           ⟨⟨none, some 33, (Op.binOp BinOp.neq 3 (Operand.tmp 31) (Operand.tmp 32) 3)⟩, [], [], []⟩,
           ⟨⟨none, some 34, (Op.move (Operand.tmp 33))⟩, [], [], []⟩,
           ⟨⟨some (34, false), some 35, (Op.load 25 (Operand.tmp 5))⟩, [5], [], []⟩,
           ⟨⟨some (34, false), some 36, (Op.load 25 (Operand.tmp 7))⟩, [7], [5], []⟩,
           ⟨⟨some (34, false), some 37, (Op.call ⟨(Callee.value (Operand.func 20)), #[(Operand.tmp 35), (Operand.tmp 36)], #[25, 25]⟩)⟩, [], [], []⟩,
           ⟨⟨some (34, false), some 38, (Op.unOp UnOp.not 4 (Operand.tmp 37))⟩, [], [], []⟩,
           ⟨⟨none, some 39, (Op.pick (Operand.tmp 34) (Operand.const (Value.bool true)) (Operand.tmp 38))⟩, [], [], []⟩,
           ⟨⟨none, some 40, (Op.move (Operand.tmp 39))⟩, [], [], []⟩,
           ⟨⟨some (40, false), some 41, (Op.load 25 (Operand.tmp 3))⟩, [3], [], []⟩,
           ⟨⟨some (40, false), some 43, (Op.load 25 (Operand.tmp 3))⟩, [3], [3], []⟩,
           ⟨⟨some (40, false), some 42, (Op.call ⟨(Callee.value (Operand.func 21)), #[(Operand.tmp 41)], #[25]⟩)⟩, [], [3], []⟩,
           ⟨⟨some (40, false), some 44, (Op.call ⟨(Callee.value (Operand.func 18)), #[(Operand.tmp 43)], #[25]⟩)⟩, [], [], []⟩,
           ⟨⟨some (40, false), some 45, (Op.binOp BinOp.neq 4 (Operand.tmp 42) (Operand.tmp 44) 4)⟩, [], [], []⟩,
           ⟨⟨none, some 46, (Op.pick (Operand.tmp 40) (Operand.const (Value.bool true)) (Operand.tmp 45))⟩, [], [], []⟩])
        (.cond (Operand.tmp 46) (.seq (.reg [⟨none, some 2, (Op.assign (Operand.const (Value.bool false)))⟩])
          (.ret)) (.skip)))
       (.seq (.seq (.reg [⟨none, some 47, (Op.load 25 (Operand.tmp 3))⟩,
            ⟨none, some 48, (Op.call ⟨(Callee.value (Operand.func 18)), #[(Operand.tmp 47)], #[25]⟩)⟩,
            ⟨none, some 49, (Op.unOp UnOp.not 4 (Operand.tmp 48))⟩])
         (.cond (Operand.tmp 49) (.seq (.reg [⟨none, some 50, (Op.move (Operand.tmp 6))⟩,
              ⟨none, some 51, (Op.binOp BinOp.eql 3 (Operand.tmp 50) (Operand.const (Value.int IntKind.i64 5)) 3)⟩,
              ⟨none, some 52, (Op.move (Operand.tmp 51))⟩,
              ⟨some (52, true), some 53, (Op.fieldAddr 25 (Operand.tmp 5) 0)⟩,
              ⟨some (52, true), some 54, (Op.load 23 (Operand.tmp 53))⟩,
              ⟨some (52, true), some 55, (Op.call ⟨(Callee.builtin Builtin.len), #[(Operand.tmp 54)], #[23]⟩)⟩,
              ⟨some (52, true), some 56, (Op.binOp BinOp.eql 3 (Operand.tmp 55) (Operand.const (Value.int IntKind.i64 0)) 3)⟩,
              ⟨none, some 57, (Op.pick (Operand.tmp 52) (Operand.tmp 56) (Operand.const (Value.bool false)))⟩,
              ⟨none, some 2, (Op.assign (Operand.tmp 57))⟩])
           (.ret)) (.skip)))
        (.seq (.reg [⟨none, some 59, (Op.load 25 (Operand.tmp 5))⟩,
            ⟨none, some 60, (Op.fieldAddr 27 (Operand.tmp 4) 1)⟩,
            ⟨none, some 61, (Op.load 9 (Operand.tmp 60))⟩,
            ⟨none, some 62, (Op.fieldAddr 27 (Operand.tmp 4) 3)⟩,
            ⟨none, some 63, (Op.load 3 (Operand.tmp 62))⟩,
            ⟨none, some 64, (Op.call ⟨(Callee.value (Operand.func 19)), #[(Operand.tmp 59), (Operand.tmp 61), (Operand.tmp 63)], #[25, 9, 3]⟩)⟩,
            ⟨none, some 58, (Op.move (Operand.tmp 64))⟩,
            ⟨none, some 65, (Op.extract (Operand.tmp 58) 0)⟩,
            ⟨none, some 66, (Op.extract (Operand.tmp 58) 1)⟩,
            ⟨none, some 9, (Op.assign (Operand.tmp 65))⟩,
            ⟨none, some 10, (Op.assign (Operand.tmp 66))⟩])
         (.seq (.reg [⟨none, some 67, (Op.load 25 (Operand.tmp 5))⟩,
             ⟨none, some 68, (Op.call ⟨(Callee.value (Operand.func 21)), #[(Operand.tmp 67)], #[25]⟩)⟩,
             ⟨none, some 69, (Op.move (Operand.tmp 68))⟩,
             ⟨some (69, true), some 70, (Op.move (Operand.tmp 6))⟩,
             ⟨some (69, true), some 71, (Op.binOp BinOp.eql 3 (Operand.tmp 70) (Operand.const (Value.int IntKind.i64 0)) 3)⟩,
             ⟨some (69, true), some 72, (Op.move (Operand.tmp 71))⟩,
             ⟨some (72, false), some 73, (Op.load 25 (Operand.tmp 5))⟩,
             ⟨some (72, false), some 74, (Op.load 25 (Operand.tmp 3))⟩,
             ⟨some (72, false), some 75, (Op.call ⟨(Callee.value (Operand.func 20)), #[(Operand.tmp 73), (Operand.tmp 74)], #[25, 25]⟩)⟩,
             ⟨some (69, true), some 76, (Op.pick (Operand.tmp 72) (Operand.const (Value.bool true)) (Operand.tmp 75))⟩,
             ⟨none, some 77, (Op.pick (Operand.tmp 69) (Operand.tmp 76) (Operand.const (Value.bool false)))⟩,
             ⟨none, some 78, (Op.move (Operand.tmp 77))⟩,
             ⟨some (78, true), some 79, (Op.move (Operand.tmp 6))⟩,
             ⟨some (78, true), some 80, (Op.binOp BinOp.neq 3 (Operand.tmp 79) (Operand.const (Value.int IntKind.i64 0)) 3)⟩,
             ⟨some (78, true), some 81, (Op.move (Operand.tmp 80))⟩,
             ⟨some (81, false), some 82, (Op.fieldAddr 27 (Operand.tmp 4) 0)⟩,
             ⟨some (81, false), some 83, (Op.load 3 (Operand.tmp 82))⟩,
             ⟨some (81, false), some 84, (Op.binOp BinOp.neq 3 (Operand.tmp 83) (Operand.const (Value.int IntKind.i64 3)) 3)⟩,
             ⟨some (78, true), some 85, (Op.pick (Operand.tmp 81) (Operand.const (Value.bool true)) (Operand.tmp 84))⟩,
             ⟨some (78, true), some 86, (Op.move (Operand.tmp 85))⟩,
             ⟨some (86, false), some 87, (Op.move (Operand.tmp 9))⟩,
             ⟨some (86, false), some 88, (Op.fieldAddr 27 (Operand.tmp 4) 4)⟩,
             ⟨some (86, false), some 89, (Op.load 9 (Operand.tmp 88))⟩,
             ⟨some (86, false), some 90, (Op.binOp BinOp.eql 9 (Operand.tmp 87) (Operand.tmp 89) 9)⟩,
             ⟨some (86, false), some 91, (Op.move (Operand.tmp 90))⟩,
             ⟨some (91, true), some 92, (Op.move (Operand.tmp 10))⟩,
             ⟨some (91, true), some 93, (Op.binOp BinOp.eql 3 (Operand.tmp 92) (Operand.const (Value.int IntKind.i64 0)) 3)⟩,
             ⟨some (86, false), some 94, (Op.pick (Operand.tmp 91) (Operand.tmp 93) (Operand.const (Value.bool false)))⟩,
             ⟨some (78, true), some 95, (Op.pick (Operand.tmp 86) (Operand.const (Value.bool true)) (Operand.tmp 94))⟩,
             ⟨none, some 96, (Op.pick (Operand.tmp 78) (Operand.tmp 95) (Operand.const (Value.bool false)))⟩,
             ⟨none, some 2, (Op.assign (Operand.tmp 96))⟩])
          (.ret)))))))))
theorem vc5 {args : List AV} {L : List (Nat × Ob)} {R : AV → List (Nat × Ob) → Prop} (ha : args.length ≤ 97) (hL : (L.map (·.1)).Nodup)
    (h : ev Go.Proofs.Tryd.prog ⟨97, L.map (·.1)⟩ ac5 (retQ Go.Proofs.Tryd.prog [(ResultVar.tmp 2)] R) ⟨argT args, hpOf L, Us.of (L.map (·.1))⟩) : ACall Go.Proofs.Tryd.prog 5 args L R :=
  acallA (by kernel_rfl) 97 [(6, [⟨0, [], [], [], [2, 3, 4, 5, 6, 7, 8, 9, 10, 12, 11, 13, 14, 15]⟩, ⟨1, [], [], [], [2, 3, 4, 5, 6, 7, 8, 9, 10, 12, 11, 13, 14, 15]⟩, ⟨2, [], [], [], [3, 4, 5, 6, 7, 8, 9, 10, 12, 11, 13, 14, 15]⟩, ⟨3, [], [], [], [4, 5, 6, 7, 8, 9, 10, 12, 11, 13, 14, 15]⟩, ⟨4, [5], [], [], [6, 7, 8, 9, 10, 12, 11, 13, 14, 15]⟩, ⟨5, [7], [5], [], [6, 7, 8, 9, 10, 12, 11, 13, 14, 15]⟩, ⟨6, [], [], [], [7, 8, 9, 10, 12, 11, 13, 14, 15]⟩, ⟨7, [], [], [], [8, 9, 10, 12, 11, 13, 14, 15]⟩, ⟨8, [], [], [], [9, 10, 12, 11, 13, 14, 15]⟩, ⟨9, [], [], [], [10, 12, 11, 13, 14, 15]⟩, ⟨10, [3], [], [], [11, 13, 14, 15]⟩, ⟨12, [3], [3], [], [13, 14, 15]⟩, ⟨11, [], [3], [], [13, 14, 15]⟩, ⟨13, [], [], [], [14, 15]⟩, ⟨14, [], [], [], [15]⟩, ⟨15, [], [], [], []⟩])] [(ResultVar.tmp 2)] Go.Proofs.Tryd.func5 (by kernel_rfl) Go.Proofs.Tryd.ntmps5 (by kernel_rfl) ha hL (va_of_ev _ h)
theorem en5 : enters Go.Proofs.Tryd.prog 5 = true := by kernel_rfl
end Go.Av.F
end

section
/- Functions of the program in the short form; printed by acgen.py. -/
namespace Go.Av.F
open Go Go.Av
set_option maxRecDepth 100000
set_option linter.constructorNameAsVariable false
theorem vv57 {args : List AV} {L : List (Nat × Ob)} {R : AV → List (Nat × Ob) → Prop} (ha : args.length ≤ 122) (hL : (L.map (·.1)).Nodup)
    (h : VA Go.Proofs.Tryd.prog ⟨122, L.map (·.1)⟩ ac57 ⟨argT args, hpOf L, Us.of (L.map (·.1))⟩ (retQ Go.Proofs.Tryd.prog [(ResultVar.cell 4 27)] R)) : ACall Go.Proofs.Tryd.prog 57 args L R :=
  acallA (by kernel_rfl) 122 [(5, [⟨0, [], [], [], [1, 7, 8, 9, 10, 11]⟩, ⟨1, [3], [], [], [7, 8, 9, 10, 11]⟩, ⟨2, [], [3], [], [6, 7, 8, 9, 10, 11]⟩, ⟨3, [], [3], [], [4, 5, 6, 7, 8, 9, 10, 11]⟩, ⟨4, [3], [3], [], [5, 6, 7, 8, 9, 10, 11]⟩, ⟨5, [], [3], [], [6, 7, 8, 9, 10, 11]⟩, ⟨6, [], [3], [], [7, 8, 9, 10, 11]⟩, ⟨7, [], [], [], [8, 9, 10, 11]⟩, ⟨8, [], [], [], [9, 10, 11]⟩, ⟨9, [], [], [], [10, 11]⟩, ⟨10, [], [], [], [11]⟩, ⟨11, [], [], [], []⟩]), (7, [⟨0, [], [], [], [1, 7, 8, 10]⟩, ⟨1, [3], [], [], [7, 8, 10]⟩, ⟨2, [], [3], [], [6, 7, 8, 10]⟩, ⟨3, [], [3], [], [4, 5, 6, 7, 8, 10]⟩, ⟨4, [3], [3], [], [5, 6, 7, 8, 10]⟩, ⟨5, [], [3], [], [6, 7, 8, 10]⟩, ⟨6, [], [3], [9], [7, 8, 10]⟩, ⟨7, [], [], [], [8, 10]⟩, ⟨8, [], [], [], [10]⟩, ⟨9, [], [3], [], [10]⟩, ⟨10, [], [], [], []⟩])] [(ResultVar.cell 4 27)] Go.Proofs.Tryd.func57 (by kernel_rfl) Go.Proofs.Tryd.ntmps57 (by kernel_rfl) ha hL h
theorem vv114 {args : List AV} {L : List (Nat × Ob)} {R : AV → List (Nat × Ob) → Prop} (ha : args.length ≤ 23) (hL : (L.map (·.1)).Nodup)
    (h : VA Go.Proofs.Tryd.prog ⟨23, L.map (·.1)⟩ ac114 ⟨argT args, hpOf L, Us.of (L.map (·.1))⟩ (retQ Go.Proofs.Tryd.prog [(ResultVar.cell 4 25)] R)) : ACall Go.Proofs.Tryd.prog 114 args L R :=
  acallA (by kernel_rfl) 23 [(5, [⟨0, [5], [], [], [1, 4, 5, 6, 7, 8, 9]⟩, ⟨2, [], [5], [], [4, 5, 6, 7, 8, 9]⟩, ⟨3, [5], [5], [], [4, 5, 6, 7, 8, 9]⟩, ⟨1, [], [5], [], [4, 5, 6, 7, 8, 9]⟩, ⟨4, [], [], [], [5, 6, 7, 8, 9]⟩, ⟨5, [], [], [], [6, 7, 8, 9]⟩, ⟨6, [], [], [], [7, 8, 9]⟩, ⟨7, [], [], [], [9]⟩, ⟨8, [], [], [], []⟩, ⟨9, [], [], [], []⟩])] [(ResultVar.cell 4 25)] Go.Proofs.Tryd.func114 (by kernel_rfl) Go.Proofs.Tryd.ntmps114 (by kernel_rfl) ha hL h
end Go.Av.F
end

section
/- Functions of the program in the short form; printed by acgen.py. -/
namespace Go.Av.F
open Go Go.Av
set_option maxRecDepth 100000
set_option linter.constructorNameAsVariable false
/-- spec.l4Book -/
def ac56 : ACode :=
  .seq (.reg [⟨none, some 2, (Op.alloc 25)⟩])
  (.seq (.reg [⟨none, some 5, (Op.move (Operand.tmp 0))⟩,
      ⟨none, some 6, (Op.move (Operand.tmp 0))⟩,
      ⟨none, some 7, (Op.buildSlice 54 5 #[(0, (Operand.const (Value.int IntKind.i64 0))), (1, (Operand.const (Value.int IntKind.i64 4))), (2, (Operand.const (Value.int IntKind.i64 10))), (3, (Operand.const (Value.int IntKind.i64 20))), (4, (Operand.const (Value.int IntKind.i64 35)))])⟩,
      ⟨none, some 8, (Op.call ⟨(Callee.value (Operand.func 115)), #[(Operand.tmp 6), (Operand.tmp 7)], #[88, 54]⟩)⟩,
      ⟨none, some 9, (Op.call ⟨(Callee.value (Operand.func 114)), #[(Operand.tmp 5), (Operand.tmp 8)], #[88, 3]⟩)⟩,
      ⟨none, some 3, (Op.alloc 25)⟩,
      ⟨none, none, (Op.store 25 (Operand.tmp 3) (Operand.tmp 9))⟩])
   (.seq (.seq (.reg [⟨none, some 10, (Op.fieldAddr 25 (Operand.tmp 3) 0)⟩,
        ⟨none, some 11, (Op.load 23 (Operand.tmp 10))⟩,
        ⟨none, some 12, (Op.call ⟨(Callee.builtin Builtin.len), #[(Operand.tmp 11)], #[23]⟩)⟩,
        ⟨none, some 13, (Op.binOp BinOp.eql 3 (Operand.tmp 12) (Operand.const (Value.int IntKind.i64 0)) 3)⟩])
     (.cond (Operand.tmp 13) (.seq (.reg [⟨none, some 14, (Op.load 25 (Operand.tmp 3))⟩,
          ⟨none, none, (Op.store 25 (Operand.tmp 2) (Operand.tmp 14))⟩])
       (.ret)) (.skip)))
    (.seq (.reg [⟨none, some 15, (Op.move (Operand.tmp 0))⟩,
        ⟨none, some 16, (Op.fieldAddr 25 (Operand.tmp 3) 0)⟩,
        ⟨none, some 17, (Op.load 23 (Operand.tmp 16))⟩,
        ⟨none, some 18, (Op.call ⟨(Callee.builtin Builtin.len), #[(Operand.tmp 17)], #[23]⟩)⟩,
        ⟨none, some 19, (Op.call ⟨(Callee.value (Operand.func 116)), #[(Operand.tmp 15), (Operand.tmp 18)], #[88, 3]⟩)⟩,
        ⟨none, some 4, (Op.assign (Operand.tmp 19))⟩])
     (.seq (.seq (.reg [⟨none, some 20, (Op.move (Operand.tmp 0))⟩,
          ⟨none, some 21, (Op.call ⟨(Callee.value (Operand.func 116)), #[(Operand.tmp 20), (Operand.const (Value.int IntKind.i64 40))], #[88, 3]⟩)⟩])
       (.block 0 (.seq (.reg [⟨none, some 23, (Op.binOp BinOp.eql 3 (Operand.tmp 21) (Operand.const (Value.int IntKind.i64 0)) 3)⟩,
            ⟨none, some 22, (Op.assign (Operand.tmp 23))⟩])
         (.cond (Operand.tmp 22) (.reg [⟨none, some 24, (Op.fieldAddr 25 (Operand.tmp 3) 0)⟩,
             ⟨none, some 25, (Op.load 23 (Operand.tmp 24))⟩,
             ⟨none, some 26, (Op.move (Operand.tmp 4))⟩,
             ⟨none, some 27, (Op.indexAddr 23 (Operand.tmp 25) (Operand.tmp 26))⟩,
             ⟨none, some 28, (Op.fieldAddr 35 (Operand.tmp 27) 0)⟩,
             ⟨none, none, (Op.store 9 (Operand.tmp 28) (Operand.const (Value.string ⟨#[65]⟩)))⟩]) (.seq (.reg [⟨none, some 30, (Op.binOp BinOp.eql 3 (Operand.tmp 21) (Operand.const (Value.int IntKind.i64 1)) 3)⟩,
              ⟨none, some 29, (Op.assign (Operand.tmp 30))⟩])
           (.cond (Operand.tmp 29) (.draw [⟨⟨none, some 31, (Op.fieldAddr 25 (Operand.tmp 3) 0)⟩, [], [], []⟩,
               ⟨⟨none, some 32, (Op.load 23 (Operand.tmp 31))⟩, [3], [], []⟩,
               ⟨⟨none, some 33, (Op.move (Operand.tmp 4))⟩, [], [3], []⟩,
               ⟨⟨none, some 34, (Op.fieldAddr 25 (Operand.tmp 3) 0)⟩, [], [3], []⟩,
               ⟨⟨none, some 35, (Op.load 23 (Operand.tmp 34))⟩, [3], [3], []⟩,
               ⟨⟨none, some 36, (Op.move (Operand.tmp 4))⟩, [], [3], []⟩,
               ⟨⟨none, some 37, (Op.indexAddr 23 (Operand.tmp 35) (Operand.tmp 36))⟩, [901], [3], []⟩,
               ⟨⟨none, some 38, (Op.fieldAddr 35 (Operand.tmp 37) 1)⟩, [], [3], []⟩,
               ⟨⟨none, some 39, (Op.load 3 (Operand.tmp 38))⟩, [901], [3], []⟩,
               ⟨⟨none, some 40, (Op.binOp BinOp.sub 3 (Operand.const (Value.int IntKind.i64 3)) (Operand.tmp 39) 3)⟩, [], [3], []⟩,
               ⟨⟨none, some 41, (Op.indexAddr 23 (Operand.tmp 32) (Operand.tmp 33))⟩, [901], [], []⟩,
               ⟨⟨none, some 42, (Op.fieldAddr 35 (Operand.tmp 41) 1)⟩, [], [], []⟩,
               ⟨⟨none, none, (Op.store 3 (Operand.tmp 42) (Operand.tmp 40))⟩, [], [], []⟩]) (.seq (.reg [⟨none, some 44, (Op.binOp BinOp.eql 3 (Operand.tmp 21) (Operand.const (Value.int IntKind.i64 2)) 3)⟩,
                ⟨none, some 43, (Op.assign (Operand.tmp 44))⟩])
             (.cond (Operand.tmp 43) (.draw [⟨⟨none, some 45, (Op.fieldAddr 25 (Operand.tmp 3) 0)⟩, [], [], []⟩,
                 ⟨⟨none, some 46, (Op.load 23 (Operand.tmp 45))⟩, [3], [], []⟩,
                 ⟨⟨none, some 47, (Op.move (Operand.tmp 4))⟩, [], [3], []⟩,
                 ⟨⟨none, some 48, (Op.move (Operand.tmp 0))⟩, [], [3], []⟩,
                 ⟨⟨none, some 49, (Op.fieldAddr 25 (Operand.tmp 3) 0)⟩, [], [3], []⟩,
                 ⟨⟨none, some 50, (Op.load 23 (Operand.tmp 49))⟩, [3], [3], []⟩,
                 ⟨⟨none, some 51, (Op.move (Operand.tmp 4))⟩, [], [3], []⟩,
                 ⟨⟨none, some 52, (Op.indexAddr 23 (Operand.tmp 50) (Operand.tmp 51))⟩, [901], [3], []⟩,
                 ⟨⟨none, some 53, (Op.fieldAddr 35 (Operand.tmp 52) 0)⟩, [], [3], []⟩,
                 ⟨⟨none, some 54, (Op.load 9 (Operand.tmp 53))⟩, [901], [3], []⟩,
                 ⟨⟨none, some 55, (Op.buildSlice 42 3 #[(0, (Operand.const (Value.string ⟨#[110, 111, 110, 101]⟩))), (1, (Operand.tmp 54)), (2, (Operand.const (Value.string ⟨#[97]⟩)))])⟩, [], [3], []⟩,
                 ⟨⟨none, some 56, (Op.call ⟨(Callee.value (Operand.func 117)), #[(Operand.tmp 48), (Operand.tmp 55)], #[88, 42]⟩)⟩, [], [3], []⟩,
                 ⟨⟨none, some 57, (Op.indexAddr 23 (Operand.tmp 46) (Operand.tmp 47))⟩, [901], [], []⟩,
                 ⟨⟨none, some 58, (Op.fieldAddr 35 (Operand.tmp 57) 2)⟩, [], [], []⟩,
                 ⟨⟨none, none, (Op.store 9 (Operand.tmp 58) (Operand.tmp 56))⟩, [], [], []⟩]) (.seq (.reg [⟨none, some 60, (Op.binOp BinOp.eql 3 (Operand.tmp 21) (Operand.const (Value.int IntKind.i64 3)) 3)⟩,
                  ⟨none, some 59, (Op.assign (Operand.tmp 60))⟩])
               (.cond (Operand.tmp 59) (.draw [⟨⟨none, some 61, (Op.fieldAddr 25 (Operand.tmp 3) 0)⟩, [], [], []⟩,
                   ⟨⟨none, some 62, (Op.load 23 (Operand.tmp 61))⟩, [3], [], []⟩,
                   ⟨⟨none, some 63, (Op.fieldAddr 25 (Operand.tmp 3) 0)⟩, [], [3], []⟩,
                   ⟨⟨none, some 64, (Op.load 23 (Operand.tmp 63))⟩, [3], [3], []⟩,
                   ⟨⟨none, some 65, (Op.move (Operand.tmp 4))⟩, [], [3], []⟩,
                   ⟨⟨none, some 66, (Op.indexAddr 23 (Operand.tmp 64) (Operand.tmp 65))⟩, [901], [3], []⟩,
                   ⟨⟨none, some 67, (Op.load 35 (Operand.tmp 66))⟩, [901], [3], []⟩,
                   ⟨⟨none, some 68, (Op.buildSlice 23 1 #[(0, (Operand.tmp 67))])⟩, [], [3], []⟩,
                   ⟨⟨none, some 69, (Op.call ⟨(Callee.builtin Builtin.append), #[(Operand.tmp 62), (Operand.tmp 68)], #[23, 23]⟩)⟩, [], [], []⟩,
                   ⟨⟨none, some 70, (Op.fieldAddr 25 (Operand.tmp 3) 0)⟩, [], [], []⟩,
                   ⟨⟨none, none, (Op.store 23 (Operand.tmp 70) (Operand.tmp 69))⟩, [], [], []⟩]) (.seq (.reg [⟨none, some 72, (Op.binOp BinOp.eql 3 (Operand.tmp 21) (Operand.const (Value.int IntKind.i64 4)) 3)⟩,
                    ⟨none, some 71, (Op.assign (Operand.tmp 72))⟩])
                 (.cond (Operand.tmp 71) (.draw [⟨⟨none, some 73, (Op.fieldAddr 25 (Operand.tmp 3) 0)⟩, [], [], []⟩,
                     ⟨⟨none, some 74, (Op.load 23 (Operand.tmp 73))⟩, [3], [], []⟩,
                     ⟨⟨none, some 75, (Op.move (Operand.tmp 4))⟩, [], [3], []⟩,
                     ⟨⟨none, some 77, (Op.indexAddr 23 (Operand.tmp 74) (Operand.tmp 75))⟩, [901], [], []⟩,
                     ⟨⟨none, some 78, (Op.fieldAddr 35 (Operand.tmp 77) 3)⟩, [], [], []⟩,
                     ⟨⟨none, some 76, (Op.call ⟨(Callee.value (Operand.func 118)), #[(Operand.const (Value.string ⟨#[121]⟩)), (Operand.const (Value.int IntKind.i64 25))], #[9, 3]⟩)⟩, [], [3, 901], []⟩,
                     ⟨⟨none, some 79, (Op.indexAddr 33 (Operand.tmp 78) (Operand.const (Value.int IntKind.i64 0)))⟩, [], [], []⟩,
                     ⟨⟨none, none, (Op.store 9 (Operand.tmp 79) (Operand.tmp 76))⟩, [], [], []⟩]) (.skip)))))))))))))
      (.seq (.reg [⟨none, some 80, (Op.load 25 (Operand.tmp 3))⟩,
          ⟨none, none, (Op.store 25 (Operand.tmp 2) (Operand.tmp 80))⟩])
       (.ret))))))
theorem vc56 {args : List AV} {L : List (Nat × Ob)} {R : AV → List (Nat × Ob) → Prop} (ha : args.length ≤ 81) (hL : (L.map (·.1)).Nodup)
    (h : ev Go.Proofs.Tryd.prog ⟨81, L.map (·.1)⟩ ac56 (retQ Go.Proofs.Tryd.prog [(ResultVar.cell 2 25)] R) ⟨argT args, hpOf L, Us.of (L.map (·.1))⟩) : ACall Go.Proofs.Tryd.prog 56 args L R :=
  acallA (by kernel_rfl) 81 [(9, [⟨0, [], [], [], [1, 10, 11, 12]⟩, ⟨1, [3], [], [], [10, 11, 12]⟩, ⟨2, [], [3], [], [10, 11, 12]⟩, ⟨3, [], [3], [], [4, 6, 7, 8, 9, 10, 11, 12]⟩, ⟨4, [3], [3], [], [6, 7, 8, 9, 10, 11, 12]⟩, ⟨5, [], [3], [], [6, 7, 8, 9, 10, 11, 12]⟩, ⟨6, [901], [3], [], [7, 8, 9, 10, 11, 12]⟩, ⟨7, [], [3], [], [8, 9, 10, 11, 12]⟩, ⟨8, [901], [3], [], [9, 10, 11, 12]⟩, ⟨9, [], [3], [], [10, 11, 12]⟩, ⟨10, [901], [], [], [11, 12]⟩, ⟨11, [], [], [], [12]⟩, ⟨12, [], [], [], []⟩]), (11, [⟨0, [], [], [], [1, 12, 13, 14]⟩, ⟨1, [3], [], [], [12, 13, 14]⟩, ⟨2, [], [3], [], [12, 13, 14]⟩, ⟨3, [], [3], [], [11, 12, 13, 14]⟩, ⟨4, [], [3], [], [5, 7, 8, 9, 10, 11, 12, 13, 14]⟩, ⟨5, [3], [3], [], [7, 8, 9, 10, 11, 12, 13, 14]⟩, ⟨6, [], [3], [], [7, 8, 9, 10, 11, 12, 13, 14]⟩, ⟨7, [901], [3], [], [8, 9, 10, 11, 12, 13, 14]⟩, ⟨8, [], [3], [], [9, 10, 11, 12, 13, 14]⟩, ⟨9, [901], [3], [], [10, 11, 12, 13, 14]⟩, ⟨10, [], [3], [], [11, 12, 13, 14]⟩, ⟨11, [], [3], [], [12, 13, 14]⟩, ⟨12, [901], [], [], [13, 14]⟩, ⟨13, [], [], [], [14]⟩, ⟨14, [], [], [], []⟩]), (13, [⟨0, [], [], [], [1, 8, 9, 10]⟩, ⟨1, [3], [], [], [8, 9, 10]⟩, ⟨2, [], [3], [], [3, 5, 6, 7, 8, 9, 10]⟩, ⟨3, [3], [3], [], [5, 6, 7, 8, 9, 10]⟩, ⟨4, [], [3], [], [5, 6, 7, 8, 9, 10]⟩, ⟨5, [901], [3], [], [6, 7, 8, 9, 10]⟩, ⟨6, [901], [3], [], [7, 8, 9, 10]⟩, ⟨7, [], [3], [], [8, 9, 10]⟩, ⟨8, [], [], [], [9, 10]⟩, ⟨9, [], [], [], [10]⟩, ⟨10, [], [], [], []⟩]), (15, [⟨0, [], [], [], [1, 4, 5, 6, 7]⟩, ⟨1, [3], [], [], [4, 5, 6, 7]⟩, ⟨2, [], [3], [], [4, 5, 6, 7]⟩, ⟨4, [901], [], [], [5, 6, 7]⟩, ⟨5, [], [], [], [6, 7]⟩, ⟨3, [], [3, 901], [], [6, 7]⟩, ⟨6, [], [], [], [7]⟩, ⟨7, [], [], [], []⟩])] [(ResultVar.cell 2 25)] Go.Proofs.Tryd.func56 (by kernel_rfl) Go.Proofs.Tryd.ntmps56 (by kernel_rfl) ha hL (va_of_ev _ h)
theorem en56 : enters Go.Proofs.Tryd.prog 56 = true := by kernel_rfl
end Go.Av.F
end

section
/- Functions of the program in the short form; printed by acgen.py. -/
namespace Go.Av.F
open Go Go.Av
set_option maxRecDepth 100000
set_option linter.constructorNameAsVariable false
theorem vv15 {args : List AV} {L : List (Nat × Ob)} {R : AV → List (Nat × Ob) → Prop} (ha : args.length ≤ 14) (hL : (L.map (·.1)).Nodup)
    (h : VA Go.Proofs.Tryd.prog ⟨14, L.map (·.1)⟩ ac15 ⟨argT args, hpOf L, Us.of (L.map (·.1))⟩ (retQ Go.Proofs.Tryd.prog [(ResultVar.cell 2 25), (ResultVar.cell 3 27)] R)) : ACall Go.Proofs.Tryd.prog 15 args L R :=
  acallA (by kernel_rfl) 14 [(3, [⟨0, [5], [], [], [4, 5]⟩, ⟨1, [], [5], [], [3, 4, 5]⟩, ⟨2, [5], [5], [], [3, 4, 5]⟩, ⟨3, [], [5], [], [4, 5]⟩, ⟨4, [], [], [], [5]⟩, ⟨5, [], [], [], []⟩])] [(ResultVar.cell 2 25), (ResultVar.cell 3 27)] Go.Proofs.Tryd.func15 (by kernel_rfl) Go.Proofs.Tryd.ntmps15 (by kernel_rfl) ha hL h
end Go.Av.F
end

section
namespace Go.Av.F
open Go Go.Av
set_option linter.unusedSimpArgs false
set_option linter.unusedVariables false
noncomputable abbrev PP0 := Go.Proofs.Tryd.prog
attribute [local simp] tt3 tt4 tt9 tt5 tt22

def lowB (c : UInt8) : Bool := !(decide (c < 97) || decide (97 + 25 < c))
def nameB (s : List UInt8) : Bool := s.all lowB && decide (0 < s.length) && decide (s.length ≤ 6)

theorem all_take_succ {α : Type} (p : α → Bool) (l : List α) (i : Nat) (x : α) (h : l[i]? = some x) : (l.take (i + 1)).all p = ((l.take i).all p && p x) := by
  rw [List.take_add_one, h]; simp

theorem bookName (s : List UInt8) (hs : s.length < 4611686018427387904) : ACall Go.Proofs.Tryd.prog 62 [.str s] [] (fun r L' => r = .bool (nameB s) ∧ L' = []) := by
  apply vc62 (by simp) (by simp)
  simp [ac62]
  refine ev_loopX (X := Nat) [0, 2, 3] (fun i => ⟨mkT [(0, .str s), (2, .bool false), (3, .int .i64 i)], hpOf [], Us.of []⟩) (fun i => s.length - i) (fun i => i ≤ s.length ∧ (s.take i).all lowB = true) 0 ⟨by simp, [], by simp [canonOk], by simp [canon]⟩ ?_
  rintro i ⟨hi, ha⟩
  simp only [ac62_l0]
  by_cases h1 : i < s.length
  · obtain ⟨x, e0⟩ : ∃ x, s[i] = x := ⟨_, rfl⟩
    have e1 : s[i]? = some x := by rw [← e0]; exact List.getElem?_eq_getElem h1
    have e2 : IntKind.i64.wrap ((i:Int) + 1) = ((i+1 : Nat) : Int) := by rw [i64_in' _ (by omega)]; omega
    have hbad : lowB x = false → nameB s = false := fun hx => by
      have hm : x ∈ s := List.mem_of_getElem? e1
      have : s.all lowB = false := by rw [List.all_eq_false]; exact ⟨x, hm, by simp [hx]⟩
      simp [nameB, this]
    simp [h1, e0, e1, e2]
    refine ⟨fun h2 => ⟨fun h3 => hbad ?_, fun h3 => nextX_of (i + 1) (by omega) ⟨by omega, ?_⟩ [] (by simp [canonOk]) (by simp [canon])⟩, fun h2 => hbad ?_⟩
    · simp [lowB, UInt8.lt_iff_toNat_lt]; omega
    · have := all_take_succ lowB s i x e1
      rw [ha] at this
      have hx : lowB x = true := by simp [lowB, UInt8.lt_iff_toNat_lt]; omega
      rw [hx] at this
      simpa using this
    · simp [lowB, UInt8.lt_iff_toNat_lt]; omega
  · have hi' : i = s.length := by omega
    subst hi'
    rw [List.take_length] at ha
    simp [h1]
    refine ⟨fun h => ?_, fun h => ?_⟩
    · simp [nameB, ha, h]; omega
    · subst h; simp [nameB]
end Go.Av.F
end

section
namespace Go.Av.F
open Go Go.Av
set_option linter.unusedSimpArgs false
set_option linter.unusedVariables false
set_option maxRecDepth 100000
noncomputable abbrev PP := Go.Proofs.Tryd.prog
attribute [local simp] tt3 tt4 tt9 tt5 tt22 tt150
theorem fol : Go.Proofs.Tryd.prog.follows .mixedOrders = true := by kernel_rfl
attribute [simp] fol

def u8row (c : UInt8) : List AV := [.int .u8 c.toNat]
def rdOb (bs : List UInt8) (p : Int) : Ob := ⟨2, [[.lst 1 (bs.map u8row), .int .i64 p]]⟩
attribute [local simp] rdOb

theorem pickC (bs : List UInt8) (p n : Int) (hp : 0 ≤ p ∧ p < 1000000000) (hb : bs.length ≤ 2000) : ACall PP 116 [.ptr 1000 0 0, .int .i64 n] [(1000, rdOb bs p)] (fun r L' => ∃ k : Int, r = .int .i64 k ∧ (1 ≤ n → 0 ≤ k ∧ k < n) ∧ (n < 1 → k = 0) ∧ L' = [(1000, rdOb bs (p + 1))]) := by
  have e1 : IntKind.i64.wrap (p + 1) = p + 1 := i64_in' _ (by omega)
  have e2 : IntKind.i64.wrap p = p := i64_in' _ (by omega)
  have e2' : p + 1 - 1 = p := by omega
  by_cases hn : n < 1
  · apply vc116 (by simp) (by simp)
    simp [ac116, e1, hn]
    omega
  by_cases hb0 : bs = []
  · subst hb0
    apply vc116 (by simp) (by simp)
    simp [ac116, e1, hn]
    omega
  have hl : 0 < bs.length := List.length_pos_iff.2 hb0
  by_cases hp2 : p < bs.length
  · have e3 : bs[p.toNat]? = some (bs[p.toNat]'(by omega)) := List.getElem?_eq_getElem _
    generalize bs[p.toNat]'(by omega) = b at e3
    have hbr := b.toNat_lt
    have e4 : IntKind.i64.wrap (b.toNat : Int) = b.toNat := i64_in' _ (by omega)
    apply vc116 (by simp) (by simp)
    simp [ac116, e1, e2, hn, hb0, hp2, e3, u8row, e4]
    have := Int.tmod_nonneg (a := (b.toNat : Int)) n (by omega)
    have := Int.tmod_lt_of_pos (b.toNat : Int) (b := n) (by omega)
    exact ⟨by omega, by omega, fun _ => ⟨by omega, by omega⟩⟩
  · have e5 : ((p.tmod bs.length).toNat) < bs.length := by
      have := Int.tmod_lt_of_pos p (b := bs.length) (by omega)
      have := Int.tmod_nonneg (a := p) bs.length (by omega)
      omega
    have e6 : (((p * 7 + 3).tmod bs.length).toNat) < bs.length := by
      have := Int.tmod_lt_of_pos (p * 7 + 3) (b := bs.length) (by omega)
      have := Int.tmod_nonneg (a := p * 7 + 3) bs.length (by omega)
      omega
    have e7 : bs[(p.tmod bs.length).toNat]? = some (bs[(p.tmod bs.length).toNat]) := List.getElem?_eq_getElem _
    have e8 : bs[((p * 7 + 3).tmod bs.length).toNat]? = some (bs[((p * 7 + 3).tmod bs.length).toNat]) := List.getElem?_eq_getElem _
    generalize bs[(p.tmod bs.length).toNat] = b at e7
    generalize bs[((p * 7 + 3).tmod bs.length).toNat] = c at e8
    have hbr := b.toNat_lt
    have hcr := c.toNat_lt
    have e4 : IntKind.i64.wrap (b.toNat : Int) = b.toNat := i64_in' _ (by omega)
    have e9 : IntKind.i64.wrap (c.toNat : Int) = c.toNat := i64_in' _ (by omega)
    have e10 : IntKind.i64.wrap (p * 7) = p * 7 := i64_in' _ (by omega)
    have e11 : IntKind.i64.wrap (p * 7 + 3) = p * 7 + 3 := i64_in' _ (by omega)
    have e12 : IntKind.i64.wrap (b.toNat * 131) = b.toNat * 131 := i64_in' _ (by omega)
    have e13 : IntKind.i64.wrap (c.toNat * 1117) = c.toNat * 1117 := i64_in' _ (by omega)
    have e14 : IntKind.i64.wrap (p * 29) = p * 29 := i64_in' _ (by omega)
    have e15 : IntKind.i64.wrap ((b.toNat : Int) * 131 + c.toNat * 1117) = b.toNat * 131 + c.toNat * 1117 := i64_in' _ (by omega)
    have hq1 : 0 ≤ p.tdiv bs.length := Int.tdiv_nonneg (by omega) (by omega)
    have hq2 : p.tdiv bs.length ≤ p := by
      rw [Int.tdiv_eq_ediv_of_nonneg (by omega)]
      exact Int.ediv_le_self _ (by omega)
    obtain ⟨q, hq⟩ : ∃ q, p.tdiv bs.length = q := ⟨_, rfl⟩
    rw [hq] at hq1 hq2
    have e16 : IntKind.i64.wrap q = q := i64_in' _ (by omega)
    have e17 : IntKind.i64.wrap (q * 53) = q * 53 := i64_in' _ (by omega)
    have e18 : IntKind.i64.wrap ((b.toNat : Int) * 131 + c.toNat * 1117 + p * 29) = b.toNat * 131 + c.toNat * 1117 + p * 29 := i64_in' _ (by omega)
    have e19 : IntKind.i64.wrap ((b.toNat : Int) * 131 + c.toNat * 1117 + p * 29 + q * 53) = b.toNat * 131 + c.toNat * 1117 + p * 29 + q * 53 := i64_in' _ (by omega)
    obtain ⟨x, hx⟩ : ∃ x : Nat, ((b.toNat : Int) * 131 + c.toNat * 1117 + p * 29 + q * 53) = x := ⟨(b.toNat * 131 + c.toNat * 1117 + p * 29 + q * 53 : Int).toNat, by omega⟩
    have hxb : x < 4611686018427387904 := by omega
    rw [hx] at e19
    obtain ⟨z, hz⟩ : ∃ z, x / 64 = z := ⟨_, rfl⟩
    have e20 : ((x : Int).tdiv 64) = (z : Int) := by rw [Int.tdiv_eq_ediv_of_nonneg (by omega)]; omega
    have e21 : IntKind.i64.wrap (z : Int) = z := i64_in' _ (by omega)
    obtain ⟨e22, hy⟩ := bitI_xor_nat x z hxb (by omega)
    obtain ⟨y, hy0⟩ : ∃ y, x ^^^ z = y := ⟨_, rfl⟩
    rw [hy0] at e22 hy
    apply vc116 (by simp) (by simp)
    simp [ac116, e1, e2, hn, hb0, hp2, e7, e8, u8row, e4, e9, e10, e11, e12, e13, e14, e15, hq, e16, e17, e18, hx, e19, e20, e21, e22]
    have h1 := Int.tmod_nonneg (a := (y : Int)) n (by omega)
    have h2 := Int.tmod_lt_of_pos (y : Int) (b := n) (by omega)
    have h3 := Int.tmod_lt_of_pos p (b := bs.length) (by omega)
    have h4 := Int.tmod_nonneg (a := p) bs.length (by omega)
    have h5 := Int.tmod_lt_of_pos (p * 7 + 3) (b := bs.length) (by omega)
    have h6 := Int.tmod_nonneg (a := p * 7 + 3) bs.length (by omega)
    exact ⟨⟨h4, h3⟩, ⟨h6, h5⟩, by omega, fun _ => ⟨h1, h2⟩⟩
end Go.Av.F
end

section
namespace Go.Av.F
open Go Go.Av
set_option linter.unusedSimpArgs false
set_option linter.unusedVariables false
set_option maxRecDepth 100000
attribute [local simp] tt3 tt4 tt9 tt5 tt22 tt150 tt54 tt42
attribute [simp] en116 en117 en115 en55

def strRow (s : List UInt8) : List AV := [.str s]
def i64Row (n : Int) : List AV := [.int .i64 n]
def strOb (ls : List (List UInt8)) : Ob := ⟨1, ls.map strRow⟩
def i64Ob (ls : List Int) : Ob := ⟨1, ls.map i64Row⟩

theorem clR_str (ls : List (List UInt8)) : clR (ls.map strRow) = true := by simp [clR, strRow]
theorem clR_i64 (ls : List Int) : clR (ls.map i64Row) = true := by simp [clR, i64Row]
theorem ren_rdOb (ρ : Nat → Option Plc) (bs : List UInt8) (p : Int) : renOb ρ (rdOb bs p) = rdOb bs p := by simp [renOb, rdOb, renL, ren]
theorem rd_sz (bs : List UInt8) (p : Int) : (rdOb bs p).sz = 2 := rfl
theorem rd_mt (hv : Hp) (ids : List Nat) (ρ : Nat → Option Plc) (bs : List UInt8) (p : Int) : rowsMt hv ids ρ (rdOb bs p).els (rdOb bs p).els := .inl ⟨rfl, by simp [rdOb, clR]⟩
@[simp] theorem strOb_sz (ls : List (List UInt8)) : (strOb ls).sz = 1 := rfl
@[simp] theorem i64Ob_sz (ls : List Int) : (i64Ob ls).sz = 1 := rfl
@[simp] theorem rdOb_sz (bs : List UInt8) (p : Int) : (rdOb bs p).sz = 2 := rfl
attribute [simp] clR_str clR_i64 ren_rdOb rd_mt

theorem ofC (bs : List UInt8) (p : Int) (ls : List (List UInt8)) (hp : 0 ≤ p ∧ p < 1000000000) (hb : bs.length ≤ 2000) (hl : 0 < ls.length) (hl2 : ls.length < 1000000) :
    ACall PP 117 [.ptr 1000 0 0, .sl 1001 0 ls.length] [(1000, rdOb bs p), (1001, strOb ls)] (fun r L' => ∃ s, s ∈ ls ∧ r = .str s ∧ L' = [(1000, rdOb bs (p + 1)), (1001, strOb ls)]) := by
  apply vc117 (by simp) (by simp)
  simp [ac117]
  refine callA_wh [(1000, .whole 1000)] en116 (pickC bs p ls.length hp hb) (by simp) (by simp) (by simp) (by simp) (by simp) ?_
  rintro r L' ⟨k, rfl, h1, h2, rfl⟩
  have hk := h1 (by omega)
  have e1 : ls[k.toNat]? = some (ls[k.toNat]'(by omega)) := List.getElem?_eq_getElem _
  have hm : ls[k.toNat]'(by omega) ∈ ls := List.getElem_mem _
  generalize ls[k.toNat]'(by omega) = x at e1 hm
  refine ⟨[], ⟨by simp, by simp, by simp, by simp, by simp⟩, ?_⟩
  simp [strOb, strRow, e1]
  exact ⟨by omega, by omega, _, by simp, x, hm, rfl, rfl⟩

theorem numC (bs : List UInt8) (p : Int) (ls : List Int) (hp : 0 ≤ p ∧ p < 1000000000) (hb : bs.length ≤ 2000) (hl : 0 < ls.length) (hl2 : ls.length < 1000000) :
    ACall PP 115 [.ptr 1000 0 0, .sl 1001 0 ls.length] [(1000, rdOb bs p), (1001, i64Ob ls)] (fun r L' => ∃ s, s ∈ ls ∧ r = .int .i64 s ∧ L' = [(1000, rdOb bs (p + 1)), (1001, i64Ob ls)]) := by
  apply vc115 (by simp) (by simp)
  simp [ac115]
  refine callA_wh [(1000, .whole 1000)] en116 (pickC bs p ls.length hp hb) (by simp) (by simp) (by simp) (by simp) (by simp) ?_
  rintro r L' ⟨k, rfl, h1, h2, rfl⟩
  have hk := h1 (by omega)
  have e1 : ls[k.toNat]? = some (ls[k.toNat]'(by omega)) := List.getElem?_eq_getElem _
  have hm : ls[k.toNat]'(by omega) ∈ ls := List.getElem_mem _
  generalize ls[k.toNat]'(by omega) = x at e1 hm
  refine ⟨[], ⟨by simp, by simp, by simp, by simp, by simp⟩, ?_⟩
  simp [i64Ob, i64Row, e1]
  exact ⟨by omega, by omega, _, by simp, x, hm, rfl, rfl⟩

theorem openC (code : List UInt8) (hl : code.length < 4611686018427387904) : ACall PP 55 [.lst 1 (code.map u8row)] [] (fun r L' => r = .ptr 10 0 0 ∧ L' = [(10, rdOb (code.take 2000) 0)]) := by
  by_cases h : 2000 < code.length
  · have h' : (2000 : Int) < code.length := by omega
    apply vc55 (by simp) (by simp)
    simp [ac55, h', show ¬ (code.length : Int) ≤ 2000 by omega, rdOb, List.map_take]
    omega
  · have e1 : code.take 2000 = code := List.take_of_length_le (by omega)
    apply vc55 (by simp) (by simp)
    simp [ac55, show ¬ (2000 : Int) < code.length by omega, e1, show (code.length : Int) ≤ 2000 by omega, rdOb]

def names : List (List UInt8) := [[97], [98], [99], [100], [101], [102], [103], [118, 111, 108]]
def ofR (bs : List UInt8) (p : Int) (ls : List (List UInt8)) (r : AV) (L' : List (Nat × Ob)) : Prop := ∃ s, s ∈ ls ∧ r = .str s ∧ L' = [(1000, rdOb bs (p + 1))]

theorem nameC (bs : List UInt8) (p : Int) (hp : 0 ≤ p ∧ p < 1000000000) (hb : bs.length ≤ 2000) : ACall PP 119 [.ptr 1000 0 0] [(1000, rdOb bs p)] (ofR bs p names) := by
  apply vc119 (by simp) (by simp)
  simp [ac119]
  refine callA_wh [(1000, .whole 1000), (1001, .whole 4)] en117 (ofC bs p names hp hb (by simp [names]) (by simp [names])) (by simp [names]) (by simp) (by simp; exact rowsMt_cl (by rfl) (by simp [clR])) (by simp) (by simp) ?_
  rintro r L' ⟨x, hx, rfl, rfl⟩
  refine ⟨[], ⟨by simp, by simp, by simp, by simp, by simp⟩, ?_⟩
  simp
  exact ⟨_, by simp, x, hx, rfl, rfl⟩
end Go.Av.F
end

section
namespace Go.Av.F
open Go Go.Av
set_option linter.unusedSimpArgs false
set_option linter.unusedVariables false
set_option maxRecDepth 100000
attribute [local simp] tt3 tt4 tt9 tt5 tt22 tt25 tt23 tt35 tt33

/-- A set of a book. -/
structure BS where
  name : List UInt8
  kind : Int
  frm : List UInt8
  bl : List (List UInt8)
deriving DecidableEq, Inhabited
def BS.row (b : BS) : List AV := .str b.name :: .int .i64 b.kind :: .str b.frm :: b.bl.map .str
abbrev blen (b : BS) : Prop := b.bl.length = 8

/-- The first place at which a name is not below. -/
def atP (bs : List BS) (name : List UInt8) : Nat := (bs.takeWhile fun b => Op.bytesLess b.name name).length
def atB (bs : List BS) (name : List UInt8) : Bool := match bs[atP bs name]? with
  | some b => b.name == name
  | none => false

def bk (bs : List BS) : AV := .agg [.lst 11 (bs.map BS.row)]

theorem takeWhile_step {α : Type} (p : α → Bool) : ∀ (l : List α) (i : Nat) (x : α), (∀ j, j < i → ∀ y, l[j]? = some y → p y = true) → l[i]? = some x → i ≤ (l.takeWhile p).length ∧ (p x = false → (l.takeWhile p).length = i)
  | [], i, x, h, hx => by simp at hx
  | a :: r, 0, x, h, hx => by
    simp only [List.getElem?_cons_zero, Option.some.injEq] at hx
    subst hx
    refine ⟨by omega, fun hp => by simp [List.takeWhile, hp]⟩
  | a :: r, i + 1, x, h, hx => by
    have ha : p a = true := h 0 (by omega) a (by simp)
    obtain ⟨h1, h2⟩ := takeWhile_step p r i x (fun j hj y hy => h (j + 1) (by omega) y (by simpa using hy)) (by simpa using hx)
    refine ⟨by simp [List.takeWhile, ha]; omega, fun hp => by simp [List.takeWhile, ha, h2 hp]⟩

theorem takeWhile_all {α : Type} (p : α → Bool) : ∀ (l : List α), (∀ x ∈ l, p x = true) → l.takeWhile p = l
  | [], _ => rfl
  | a :: r, h => by simp [List.takeWhile, h a (by simp)]; exact takeWhile_all p r fun x hx => h x (by simp [hx])

theorem atC (bs : List BS) (name : List UInt8) (hl : bs.length < 1000000) : ACall Go.Proofs.Tryd.prog 125 [bk bs, .str name] [] (fun r L' => r = .tup [.int .i64 (atP bs name), .bool (atB bs name)] ∧ L' = []) := by
  apply vc125 (by simp) (by simp)
  simp [ac125, bk]
  refine ev_loopX (X := Nat) [1, 2, 6] (fun i => ⟨mkT [(1, .str name), (2, .ptr 2 0 0), (6, .int .i64 i)], hpOf [(2, ⟨1, [[.lst 11 (bs.map BS.row)]]⟩)], Us.of [2]⟩) (fun i => bs.length - i) (fun i => i ≤ bs.length ∧ ∀ j, j < i → ∀ y, bs[j]? = some y → Op.bytesLess y.name name = true) 0 ⟨by simp, [(2, 2)], by simp [canonOk], by simp [canon, obOf]⟩ ?_
  rintro i ⟨hi, ha⟩
  simp only [ac125_l0]
  by_cases h1 : i < bs.length
  · obtain ⟨b, e0⟩ : ∃ b, bs[i] = b := ⟨_, rfl⟩
    have e1 : bs[i]? = some b := by rw [← e0]; exact List.getElem?_eq_getElem h1
    have e2 : IntKind.i64.wrap ((i : Int) + 1) = ((i + 1 : Nat) : Int) := by rw [i64_in' _ (by omega)]; omega
    have ht := takeWhile_step (fun b : BS => Op.bytesLess b.name name) bs i b (fun j hj y hy => by simpa using ha j hj y hy) e1
    cases h2 : Op.bytesLess b.name name with
    | true =>
      simp [h1, e0, e1, BS.row, h2, e2]
      refine nextX_of (i + 1) (by omega) ⟨by omega, fun j hj y hy => ?_⟩ [(2, 2)] (by simp [canonOk]) (by simp [canon, obOf])
      by_cases hji : j = i
      · subst hji; rw [e1] at hy; injection hy with hy; subst hy; exact h2
      · exact ha j (by omega) y hy
    | false =>
      have ep : atP bs name = i := ht.2 (by simpa using h2)
      simp [h1, e0, e1, BS.row, h2, ep, atB]
  · have hi' : i = bs.length := by omega
    have ep : atP bs name = bs.length := by
      unfold atP
      rw [takeWhile_all _ _ (fun b hb => by
        obtain ⟨j, hj, e⟩ := List.mem_iff_getElem.1 hb
        have := ha j (by omega) b (by rw [← e]; exact List.getElem?_eq_getElem hj)
        simpa using this)]
    subst hi'
    simp [h1, ep, atB]
end Go.Av.F
end

section
namespace Go.Av.F
open Go Go.Av
set_option linter.unusedSimpArgs false
set_option linter.unusedVariables false
set_option maxRecDepth 100000
attribute [local simp] tt3 tt4 tt9 tt5 tt22 tt25 tt23 tt35 tt33

@[simp] theorem row0 (b : BS) : (BS.row b)[0]? = some (.str b.name) := rfl
@[simp] theorem row1 (b : BS) : (BS.row b)[1]? = some (.int .i64 b.kind) := rfl
@[simp] theorem row2 (b : BS) : (BS.row b)[2]? = some (.str b.frm) := rfl
@[simp] theorem row0' (b : BS) (h : 0 < (BS.row b).length) : (BS.row b)[0]'h = .str b.name := rfl
@[simp] theorem row1' (b : BS) (h : 1 < (BS.row b).length) : (BS.row b)[1]'h = .int .i64 b.kind := rfl
@[simp] theorem row2' (b : BS) (h : 2 < (BS.row b).length) : (BS.row b)[2]'h = .str b.frm := rfl
@[simp] theorem row3 (b : BS) : (BS.row b).drop 3 = b.bl.map .str := rfl
theorem row_len (b : BS) (h : b.bl.length = 8) : (BS.row b).length = 11 := by simp [BS.row, h]
theorem row_take (b : BS) (h : b.bl.length = 8) : (BS.row b).take 11 = BS.row b := List.take_of_length_le (by rw [row_len b h]; omega)
theorem row_drop (b : BS) (h : b.bl.length = 8) : (BS.row b).drop 11 = [] := List.drop_of_length_le (by rw [row_len b h]; omega)
theorem row_cl (b : BS) : clL (BS.row b) = true := by
  have : ∀ l : List (List UInt8), clL (l.map .str) = true := fun l => by induction l <;> simp_all
  simp [BS.row, this]
theorem row_one (b : BS) : (BS.row b).all oneA = true := by simp [BS.row, oneA]
theorem row_ren (ρ : Nat → Option Plc) (b : BS) : renL ρ (BS.row b) = BS.row b := by
  have : ∀ l : List (List UInt8), renL ρ (l.map .str) = l.map .str := fun l => by induction l <;> simp_all
  simp [BS.row, this]
@[simp] theorem row_ren' (ρ : Nat → Option Plc) (b : BS) : renL ρ (BS.row b) = BS.row b := row_ren ρ b
@[simp] theorem row_cl' (b : BS) : clL (BS.row b) = true := row_cl b
theorem row_all (b : BS) : ∀ x ∈ BS.row b, oneA x = true := fun x hx => List.all_eq_true.1 (row_one b) x hx

def roots (bs : List BS) : Nat → BS → Bool
  | 0, _ => false
  | n + 1, s => if s.frm = [] then s.kind == 1 else
      match bs[atP bs s.frm]? with
      | some t => if atB bs s.frm = true ∧ t.kind ≠ s.kind then roots bs n t else false
      | none => false

theorem rootsC (bs : List BS) (s : BS) (hl : bs.length < 1000000) (hB : ∀ b ∈ bs, b.bl.length = 8) (hs : s.bl.length = 8) : ACall Go.Proofs.Tryd.prog 63 [bk bs, .agg (BS.row s)] [] (fun r L' => r = .bool (roots bs (bs.length + 1) s) ∧ L' = []) := by
  obtain ⟨res, hres⟩ : ∃ res, roots bs (bs.length + 1) s = res := ⟨_, rfl⟩
  rw [hres]
  apply vc63 (by simp) (by simp)
  simp [ac63, bk, row_len _ hs]
  refine ev_loopX (X := Nat × BS) [2, 3, 5] (fun x => ⟨mkT [(2, .ptr 2 0 0), (3, .ptr 3 0 0), (5, .int .i64 x.1)], hpOf [(2, ⟨1, [[.lst 11 (bs.map BS.row)]]⟩), (3, ⟨11, [BS.row x.2]⟩)], Us.of [2, 3]⟩) (fun x => bs.length + 1 - x.1)
    (fun x => x.1 ≤ bs.length + 1 ∧ x.2.bl.length = 8 ∧ res = roots bs (bs.length + 1 - x.1) x.2) (0, s) ⟨⟨by simp, hs, hres.symm⟩, [(2, 2), (3, 3)], by simp [canonOk], by simp [canon, obOf]⟩ ?_
  rintro ⟨i, t⟩ ⟨hi, ht, he⟩
  simp only at hi ht he
  simp only [ac63_l0]
  by_cases h1 : i ≤ bs.length
  · obtain ⟨n, hn⟩ : ∃ n, bs.length + 1 - i = n + 1 := ⟨bs.length - i, by omega⟩
    have e2 : IntKind.i64.wrap ((i : Int) + 1) = ((i + 1 : Nat) : Int) := by rw [i64_in' _ (by omega)]; omega
    rw [hn] at he
    by_cases h2 : t.frm = []
    · simp [h1, h2, he, roots]
    · simp [h1, h2]
      refine callA_val en125 (atC bs t.frm hl) (by simp [bk]) (by simp) ?_
      cases h3 : atB bs t.frm with
      | false =>
        have : res = false := by
          rw [he]; simp only [roots, h2, if_false, h3]
          split <;> simp
        simp [this]
      | true =>
        obtain ⟨u, e1⟩ : ∃ u, bs[atP bs t.frm]? = some u := by
          unfold atB at h3
          split at h3
          · rename_i u hu; exact ⟨u, hu⟩
          · cases h3
        have hlt : atP bs t.frm < bs.length := (List.getElem?_eq_some_iff.1 e1).1
        have hu : u.bl.length = 8 := hB u (List.mem_of_getElem? e1)
        obtain ⟨m, hm⟩ : ∃ m, atP bs t.frm = m := ⟨_, rfl⟩
        rw [hm] at e1 hlt
        have e0 : bs[m] = u := by rw [List.getElem?_eq_getElem hlt] at e1; injection e1
        by_cases h4 : u.kind = t.kind
        · have : res = false := by
            rw [he]; simp [roots, h2, h3, hm, e1, h4]
          simp [hm, hlt, e0, e1, h4, this, row_len _ hu, row_len _ ht]
        · have e5 : res = roots bs n u := by
            rw [he]; simp [roots, h2, h3, hm, e1, h4]
          simp [hm, hlt, e0, e1, h4, row_len _ hu, row_len _ ht, row_take _ hu, row_drop _ ht, row_all, e2]
          refine ⟨row_all u, ?_⟩
          refine nextX_of (i + 1, u) (by simp only; omega) ⟨by simp only; omega, hu, ?_⟩ [(2, 2), (3, 3)] (by simp [canonOk]) (by simp [canon, obOf])
          simp only; rw [e5]; congr 1; omega
  · have : res = false := by rw [he, show bs.length + 1 - i = 0 by omega]; rfl
    simp [h1, this]
end Go.Av.F
end
