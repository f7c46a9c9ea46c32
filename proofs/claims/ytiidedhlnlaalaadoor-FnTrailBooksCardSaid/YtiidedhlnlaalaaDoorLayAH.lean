/- Lemmas for the proof, no statement of the seat: AvY1; no conditions. -/
import Derived.Test.YtiidedhlnlaalaaDoorLayAG
import Derived.Test.YtiidedhlnlaalaaDoorProg
section
/- Functions of the program in the short form; printed by acgen.py. -/
namespace Go.Av.F
open Go Go.Av
set_option maxRecDepth 100000
set_option linter.constructorNameAsVariable false
/-- strings.Compare -/
def ac131 : ACode :=
  .seq (.reg [⟨none, some 4, (Op.assign (Operand.const (Value.int IntKind.i64 0)))⟩])
  (.seq (.reg [⟨none, some 5, (Op.move (Operand.tmp 0))⟩,
      ⟨none, some 6, (Op.move (Operand.tmp 1))⟩,
      ⟨none, some 7, (Op.call ⟨(Callee.value (Operand.func 178)), #[(Operand.tmp 5), (Operand.tmp 6)], #[9, 9]⟩)⟩,
      ⟨none, some 4, (Op.assign (Operand.tmp 7))⟩])
   (.ret))
theorem vc131 {args : List AV} {L : List (Nat × Ob)} {R : AV → List (Nat × Ob) → Prop} (ha : args.length ≤ 8) (hL : (L.map (·.1)).Nodup)
    (h : ev Go.Proofs.Tryd.prog ⟨8, L.map (·.1)⟩ ac131 (retQ Go.Proofs.Tryd.prog [(ResultVar.tmp 4)] R) ⟨argT args, hpOf L, Us.of (L.map (·.1))⟩) : ACall Go.Proofs.Tryd.prog 131 args L R :=
  acallA (by kernel_rfl) 8 [] [(ResultVar.tmp 4)] Go.Proofs.Tryd.func131 (by kernel_rfl) Go.Proofs.Tryd.ntmps131 (by kernel_rfl) ha hL (va_of_ev _ h)
theorem en131 : enters Go.Proofs.Tryd.prog 131 = true := by kernel_rfl
/-- (impl.Book).place$1 -/
def ac130 : ACode :=
  .seq (.reg [⟨none, some 2, (Op.box 35 (Operand.tmp 0))⟩,
     ⟨none, some 4, (Op.assign (Operand.const (Value.int IntKind.i64 0)))⟩])
  (.seq (.reg [⟨none, some 5, (Op.fieldAddr 35 (Operand.tmp 2) 0)⟩,
      ⟨none, some 6, (Op.load 9 (Operand.tmp 5))⟩,
      ⟨none, some 7, (Op.move (Operand.tmp 1))⟩,
      ⟨none, some 8, (Op.call ⟨(Callee.value (Operand.func 131)), #[(Operand.tmp 6), (Operand.tmp 7)], #[9, 9]⟩)⟩,
      ⟨none, some 4, (Op.assign (Operand.tmp 8))⟩])
   (.ret))
theorem vc130 {args : List AV} {L : List (Nat × Ob)} {R : AV → List (Nat × Ob) → Prop} (ha : args.length ≤ 9) (hL : (L.map (·.1)).Nodup)
    (h : ev Go.Proofs.Tryd.prog ⟨9, L.map (·.1)⟩ ac130 (retQ Go.Proofs.Tryd.prog [(ResultVar.tmp 4)] R) ⟨argT args, hpOf L, Us.of (L.map (·.1))⟩) : ACall Go.Proofs.Tryd.prog 130 args L R :=
  acallA (by kernel_rfl) 9 [] [(ResultVar.tmp 4)] Go.Proofs.Tryd.func130 (by kernel_rfl) Go.Proofs.Tryd.ntmps130 (by kernel_rfl) ha hL (va_of_ev _ h)
theorem en130 : enters Go.Proofs.Tryd.prog 130 = true := by kernel_rfl
def ac129_l0 : ACode :=
  .seq (.seq (.reg [⟨none, some 15, (Op.move (Operand.tmp 9))⟩,
      ⟨none, some 16, (Op.move (Operand.tmp 10))⟩,
      ⟨none, some 17, (Op.binOp BinOp.lss 3 (Operand.tmp 15) (Operand.tmp 16) 3)⟩])
   (.cond (Operand.tmp 17) (.skip) (.exit 0)))
  (.block 1 (.seq (.reg [⟨none, some 18, (Op.move (Operand.tmp 9))⟩,
       ⟨none, some 19, (Op.move (Operand.tmp 10))⟩,
       ⟨none, some 20, (Op.binOp BinOp.add 3 (Operand.tmp 18) (Operand.tmp 19) 3)⟩,
       ⟨none, some 21, (Op.convert 3 205 (Operand.tmp 20))⟩,
       ⟨none, some 22, (Op.binOp BinOp.shr 205 (Operand.tmp 21) (Operand.const (Value.int IntKind.u64 1)) 205)⟩,
       ⟨none, some 23, (Op.convert 205 3 (Operand.tmp 22))⟩,
       ⟨none, some 11, (Op.assign (Operand.tmp 23))⟩])
    (.seq (.reg [⟨none, some 24, (Op.move (Operand.tmp 2))⟩,
        ⟨none, some 25, (Op.move (Operand.tmp 0))⟩,
        ⟨none, some 26, (Op.move (Operand.tmp 11))⟩,
        ⟨none, some 27, (Op.indexAddr 23 (Operand.tmp 25) (Operand.tmp 26))⟩,
        ⟨none, some 28, (Op.load 35 (Operand.tmp 27))⟩,
        ⟨none, some 29, (Op.move (Operand.tmp 1))⟩,
        ⟨none, some 30, (Op.call ⟨(Callee.value (Operand.tmp 24)), #[(Operand.tmp 28), (Operand.tmp 29)], #[35, 9]⟩)⟩,
        ⟨none, some 31, (Op.binOp BinOp.lss 3 (Operand.tmp 30) (Operand.const (Value.int IntKind.i64 0)) 3)⟩])
     (.cond (Operand.tmp 31) (.reg [⟨none, some 32, (Op.move (Operand.tmp 11))⟩,
         ⟨none, some 33, (Op.binOp BinOp.add 3 (Operand.tmp 32) (Operand.const (Value.int IntKind.i64 1)) 3)⟩,
         ⟨none, some 9, (Op.assign (Operand.tmp 33))⟩]) (.reg [⟨none, some 34, (Op.move (Operand.tmp 11))⟩,
         ⟨none, some 10, (Op.assign (Operand.tmp 34))⟩])))))
/-- slices.BinarySearchFunc[[]impl.BookSet,impl.BookSet,string] -/
def ac129 : ACode :=
  .seq (.reg [⟨none, some 6, (Op.assign (Operand.const (Value.int IntKind.i64 0)))⟩,
     ⟨none, some 7, (Op.assign (Operand.const (Value.bool false)))⟩])
  (.seq (.reg [⟨none, some 12, (Op.move (Operand.tmp 0))⟩,
      ⟨none, some 13, (Op.call ⟨(Callee.builtin Builtin.len), #[(Operand.tmp 12)], #[23]⟩)⟩,
      ⟨none, some 8, (Op.assign (Operand.tmp 13))⟩])
   (.seq (.reg [⟨none, some 14, (Op.move (Operand.tmp 8))⟩,
       ⟨none, some 9, (Op.assign (Operand.const (Value.int IntKind.i64 0)))⟩,
       ⟨none, some 10, (Op.assign (Operand.tmp 14))⟩])
    (.seq (.block 0 (.loop ac129_l0))
     (.seq (.reg [⟨none, some 35, (Op.move (Operand.tmp 9))⟩,
         ⟨none, some 36, (Op.move (Operand.tmp 9))⟩,
         ⟨none, some 37, (Op.move (Operand.tmp 8))⟩,
         ⟨none, some 38, (Op.binOp BinOp.lss 3 (Operand.tmp 36) (Operand.tmp 37) 3)⟩,
         ⟨none, some 39, (Op.move (Operand.tmp 38))⟩,
         ⟨some (39, true), some 40, (Op.move (Operand.tmp 2))⟩,
         ⟨some (39, true), some 41, (Op.move (Operand.tmp 0))⟩,
         ⟨some (39, true), some 42, (Op.move (Operand.tmp 9))⟩,
         ⟨some (39, true), some 43, (Op.indexAddr 23 (Operand.tmp 41) (Operand.tmp 42))⟩,
         ⟨some (39, true), some 44, (Op.load 35 (Operand.tmp 43))⟩,
         ⟨some (39, true), some 45, (Op.move (Operand.tmp 1))⟩,
         ⟨some (39, true), some 46, (Op.call ⟨(Callee.value (Operand.tmp 40)), #[(Operand.tmp 44), (Operand.tmp 45)], #[35, 9]⟩)⟩,
         ⟨some (39, true), some 47, (Op.binOp BinOp.eql 3 (Operand.tmp 46) (Operand.const (Value.int IntKind.i64 0)) 3)⟩,
         ⟨none, some 48, (Op.pick (Operand.tmp 39) (Operand.tmp 47) (Operand.const (Value.bool false)))⟩,
         ⟨none, some 6, (Op.assign (Operand.tmp 35))⟩,
         ⟨none, some 7, (Op.assign (Operand.tmp 48))⟩])
      (.ret)))))
theorem vc129 {args : List AV} {L : List (Nat × Ob)} {R : AV → List (Nat × Ob) → Prop} (ha : args.length ≤ 49) (hL : (L.map (·.1)).Nodup)
    (h : ev Go.Proofs.Tryd.prog ⟨49, L.map (·.1)⟩ ac129 (retQ Go.Proofs.Tryd.prog [(ResultVar.tmp 6), (ResultVar.tmp 7)] R) ⟨argT args, hpOf L, Us.of (L.map (·.1))⟩) : ACall Go.Proofs.Tryd.prog 129 args L R :=
  acallA (by kernel_rfl) 49 [] [(ResultVar.tmp 6), (ResultVar.tmp 7)] Go.Proofs.Tryd.func129 (by kernel_rfl) Go.Proofs.Tryd.ntmps129 (by kernel_rfl) ha hL (va_of_ev _ h)
theorem en129 : enters Go.Proofs.Tryd.prog 129 = true := by kernel_rfl
/-- (impl.Book).place -/
def ac65 : ACode :=
  .seq (.reg [⟨none, some 2, (Op.box 25 (Operand.tmp 0))⟩,
     ⟨none, some 4, (Op.assign (Operand.const (Value.int IntKind.i64 0)))⟩,
     ⟨none, some 5, (Op.assign (Operand.const (Value.bool false)))⟩])
  (.seq (.reg [⟨none, some 6, (Op.fieldAddr 25 (Operand.tmp 2) 0)⟩,
      ⟨none, some 7, (Op.load 23 (Operand.tmp 6))⟩,
      ⟨none, some 8, (Op.move (Operand.tmp 1))⟩,
      ⟨none, some 9, (Op.call ⟨(Callee.value (Operand.func 129)), #[(Operand.tmp 7), (Operand.tmp 8), (Operand.func 130)], #[23, 9, 169]⟩)⟩,
      ⟨none, some 10, (Op.extract (Operand.tmp 9) 0)⟩,
      ⟨none, some 11, (Op.extract (Operand.tmp 9) 1)⟩,
      ⟨none, some 4, (Op.assign (Operand.tmp 10))⟩,
      ⟨none, some 5, (Op.assign (Operand.tmp 11))⟩])
   (.ret))
theorem vc65 {args : List AV} {L : List (Nat × Ob)} {R : AV → List (Nat × Ob) → Prop} (ha : args.length ≤ 12) (hL : (L.map (·.1)).Nodup)
    (h : ev Go.Proofs.Tryd.prog ⟨12, L.map (·.1)⟩ ac65 (retQ Go.Proofs.Tryd.prog [(ResultVar.tmp 4), (ResultVar.tmp 5)] R) ⟨argT args, hpOf L, Us.of (L.map (·.1))⟩) : ACall Go.Proofs.Tryd.prog 65 args L R :=
  acallA (by kernel_rfl) 12 [] [(ResultVar.tmp 4), (ResultVar.tmp 5)] Go.Proofs.Tryd.func65 (by kernel_rfl) Go.Proofs.Tryd.ntmps65 (by kernel_rfl) ha hL (va_of_ev _ h)
theorem en65 : enters Go.Proofs.Tryd.prog 65 = true := by kernel_rfl
/-- impl.within -/
def ac76 : ACode :=
  .seq (.reg [⟨none, some 6, (Op.assign (Operand.const (Value.bool false)))⟩])
  (.seq (.reg [⟨none, some 7, (Op.move (Operand.tmp 1))⟩,
      ⟨none, some 8, (Op.move (Operand.tmp 0))⟩,
      ⟨none, some 9, (Op.binOp BinOp.leq 3 (Operand.tmp 7) (Operand.tmp 8) 3)⟩,
      ⟨none, some 10, (Op.move (Operand.tmp 9))⟩,
      ⟨some (10, true), some 11, (Op.move (Operand.tmp 0))⟩,
      ⟨some (10, true), some 12, (Op.move (Operand.tmp 2))⟩,
      ⟨some (10, true), some 13, (Op.binOp BinOp.leq 3 (Operand.tmp 11) (Operand.tmp 12) 3)⟩,
      ⟨none, some 14, (Op.pick (Operand.tmp 10) (Operand.tmp 13) (Operand.const (Value.bool false)))⟩,
      ⟨none, some 6, (Op.assign (Operand.tmp 14))⟩])
   (.ret))
theorem vc76 {args : List AV} {L : List (Nat × Ob)} {R : AV → List (Nat × Ob) → Prop} (ha : args.length ≤ 15) (hL : (L.map (·.1)).Nodup)
    (h : ev Go.Proofs.Tryd.prog ⟨15, L.map (·.1)⟩ ac76 (retQ Go.Proofs.Tryd.prog [(ResultVar.tmp 6)] R) ⟨argT args, hpOf L, Us.of (L.map (·.1))⟩) : ACall Go.Proofs.Tryd.prog 76 args L R :=
  acallA (by kernel_rfl) 15 [] [(ResultVar.tmp 6)] Go.Proofs.Tryd.func76 (by kernel_rfl) Go.Proofs.Tryd.ntmps76 (by kernel_rfl) ha hL (va_of_ev _ h)
theorem en76 : enters Go.Proofs.Tryd.prog 76 = true := by kernel_rfl
/-- impl.isBlock -/
def ac64 : ACode :=
  .seq (.reg [⟨none, some 2, (Op.assign (Operand.const (Value.bool false)))⟩])
  (.seq (.reg [⟨none, some 3, (Op.move (Operand.tmp 0))⟩,
      ⟨none, some 4, (Op.call ⟨(Callee.value (Operand.func 76)), #[(Operand.tmp 3), (Operand.const (Value.int IntKind.i64 0)), (Operand.const (Value.int IntKind.i64 7))], #[3, 3, 3]⟩)⟩,
      ⟨none, some 2, (Op.assign (Operand.tmp 4))⟩])
   (.ret))
theorem vc64 {args : List AV} {L : List (Nat × Ob)} {R : AV → List (Nat × Ob) → Prop} (ha : args.length ≤ 5) (hL : (L.map (·.1)).Nodup)
    (h : ev Go.Proofs.Tryd.prog ⟨5, L.map (·.1)⟩ ac64 (retQ Go.Proofs.Tryd.prog [(ResultVar.tmp 2)] R) ⟨argT args, hpOf L, Us.of (L.map (·.1))⟩) : ACall Go.Proofs.Tryd.prog 64 args L R :=
  acallA (by kernel_rfl) 5 [] [(ResultVar.tmp 2)] Go.Proofs.Tryd.func64 (by kernel_rfl) Go.Proofs.Tryd.ntmps64 (by kernel_rfl) ha hL (va_of_ev _ h)
theorem en64 : enters Go.Proofs.Tryd.prog 64 = true := by kernel_rfl
/-- impl.BookName -/
def ac67 : ACode :=
  .seq (.reg [⟨none, some 2, (Op.assign (Operand.const (Value.bool false)))⟩])
  (.seq (.reg [⟨none, some 3, (Op.move (Operand.tmp 0))⟩,
      ⟨none, some 4, (Op.call ⟨(Callee.builtin Builtin.len), #[(Operand.tmp 3)], #[9]⟩)⟩,
      ⟨none, some 5, (Op.call ⟨(Callee.value (Operand.func 76)), #[(Operand.tmp 4), (Operand.const (Value.int IntKind.i64 1)), (Operand.const (Value.int IntKind.i64 6))], #[3, 3, 3]⟩)⟩,
      ⟨none, some 6, (Op.move (Operand.tmp 5))⟩,
      ⟨some (6, true), some 7, (Op.move (Operand.tmp 0))⟩,
      ⟨some (6, true), some 8, (Op.call ⟨(Callee.value (Operand.func 132)), #[(Operand.tmp 7), (Operand.const (Value.string ⟨#[97, 98, 99, 100, 101, 102, 103, 104, 105, 106, 107, 108, 109, 110, 111, 112, 113, 114, 115, 116, 117, 118, 119, 120, 121, 122]⟩))], #[9, 9]⟩)⟩,
      ⟨some (6, true), some 9, (Op.binOp BinOp.eql 9 (Operand.tmp 8) (Operand.const (Value.string ⟨#[]⟩)) 9)⟩,
      ⟨none, some 10, (Op.pick (Operand.tmp 6) (Operand.tmp 9) (Operand.const (Value.bool false)))⟩,
      ⟨none, some 2, (Op.assign (Operand.tmp 10))⟩])
   (.ret))
theorem vc67 {args : List AV} {L : List (Nat × Ob)} {R : AV → List (Nat × Ob) → Prop} (ha : args.length ≤ 11) (hL : (L.map (·.1)).Nodup)
    (h : ev Go.Proofs.Tryd.prog ⟨11, L.map (·.1)⟩ ac67 (retQ Go.Proofs.Tryd.prog [(ResultVar.tmp 2)] R) ⟨argT args, hpOf L, Us.of (L.map (·.1))⟩) : ACall Go.Proofs.Tryd.prog 67 args L R :=
  acallA (by kernel_rfl) 11 [] [(ResultVar.tmp 2)] Go.Proofs.Tryd.func67 (by kernel_rfl) Go.Proofs.Tryd.ntmps67 (by kernel_rfl) ha hL (va_of_ev _ h)
theorem en67 : enters Go.Proofs.Tryd.prog 67 = true := by kernel_rfl
/-- strings.Trim -/
def ac132 : ACode :=
  .seq (.reg [⟨none, some 4, (Op.assign (Operand.const (Value.string ⟨#[]⟩)))⟩])
  (.seq (.seq (.reg [⟨none, some 7, (Op.move (Operand.tmp 0))⟩,
       ⟨none, some 8, (Op.binOp BinOp.eql 9 (Operand.tmp 7) (Operand.const (Value.string ⟨#[]⟩)) 9)⟩,
       ⟨none, some 9, (Op.move (Operand.tmp 8))⟩,
       ⟨some (9, false), some 10, (Op.move (Operand.tmp 1))⟩,
       ⟨some (9, false), some 11, (Op.binOp BinOp.eql 9 (Operand.tmp 10) (Operand.const (Value.string ⟨#[]⟩)) 9)⟩,
       ⟨none, some 12, (Op.pick (Operand.tmp 9) (Operand.const (Value.bool true)) (Operand.tmp 11))⟩])
    (.cond (Operand.tmp 12) (.seq (.reg [⟨none, some 13, (Op.move (Operand.tmp 0))⟩,
         ⟨none, some 4, (Op.assign (Operand.tmp 13))⟩])
      (.ret)) (.skip)))
   (.seq (.seq (.reg [⟨none, some 14, (Op.move (Operand.tmp 1))⟩,
        ⟨none, some 15, (Op.call ⟨(Callee.builtin Builtin.len), #[(Operand.tmp 14)], #[9]⟩)⟩,
        ⟨none, some 16, (Op.binOp BinOp.eql 3 (Operand.tmp 15) (Operand.const (Value.int IntKind.i64 1)) 3)⟩,
        ⟨none, some 17, (Op.move (Operand.tmp 16))⟩,
        ⟨some (17, true), some 18, (Op.move (Operand.tmp 1))⟩,
        ⟨some (17, true), some 19, (Op.index 9 (Operand.tmp 18) (Operand.const (Value.int IntKind.i64 0)))⟩,
        ⟨some (17, true), some 20, (Op.binOp BinOp.lss 5 (Operand.tmp 19) (Operand.const (Value.int IntKind.u8 128)) 5)⟩,
        ⟨none, some 21, (Op.pick (Operand.tmp 17) (Operand.tmp 20) (Operand.const (Value.bool false)))⟩])
     (.cond (Operand.tmp 21) (.seq (.draw [⟨⟨none, some 22, (Op.move (Operand.tmp 0))⟩, [], [], []⟩,
          ⟨⟨none, some 23, (Op.move (Operand.tmp 1))⟩, [], [], []⟩,
          ⟨⟨none, some 24, (Op.index 9 (Operand.tmp 23) (Operand.const (Value.int IntKind.i64 0)))⟩, [], [], []⟩,
          ⟨⟨none, some 26, (Op.move (Operand.tmp 1))⟩, [], [], []⟩,
          ⟨⟨none, some 27, (Op.index 9 (Operand.tmp 26) (Operand.const (Value.int IntKind.i64 0)))⟩, [], [], []⟩,
          ⟨⟨none, some 25, (Op.call ⟨(Callee.value (Operand.func 180)), #[(Operand.tmp 22), (Operand.tmp 24)], #[9, 5]⟩)⟩, [], [], []⟩,
          ⟨⟨none, some 28, (Op.call ⟨(Callee.value (Operand.func 179)), #[(Operand.tmp 25), (Operand.tmp 27)], #[9, 5]⟩)⟩, [], [], []⟩,
          ⟨⟨none, some 4, (Op.assign (Operand.tmp 28))⟩, [], [], []⟩])
       (.ret)) (.skip)))
    (.seq (.seq (.reg [⟨none, some 30, (Op.move (Operand.tmp 1))⟩,
         ⟨none, some 31, (Op.call ⟨(Callee.value (Operand.func 181)), #[(Operand.tmp 30)], #[9]⟩)⟩,
         ⟨none, some 29, (Op.move (Operand.tmp 31))⟩,
         ⟨none, some 32, (Op.extract (Operand.tmp 29) 0)⟩,
         ⟨none, some 33, (Op.extract (Operand.tmp 29) 1)⟩,
         ⟨none, some 5, (Op.alloc 208)⟩,
         ⟨none, none, (Op.store 208 (Operand.tmp 5) (Operand.tmp 32))⟩,
         ⟨none, some 6, (Op.assign (Operand.tmp 33))⟩])
      (.seq (.reg [⟨none, some 34, (Op.move (Operand.tmp 6))⟩])
       (.cond (Operand.tmp 34) (.seq (.reg [⟨none, some 35, (Op.move (Operand.tmp 0))⟩,
            ⟨none, some 36, (Op.call ⟨(Callee.value (Operand.func 183)), #[(Operand.tmp 35), (Operand.tmp 5)], #[9, 212]⟩)⟩,
            ⟨none, some 37, (Op.call ⟨(Callee.value (Operand.func 182)), #[(Operand.tmp 36), (Operand.tmp 5)], #[9, 212]⟩)⟩,
            ⟨none, some 4, (Op.assign (Operand.tmp 37))⟩])
         (.ret)) (.skip))))
     (.seq (.reg [⟨none, some 38, (Op.move (Operand.tmp 0))⟩,
         ⟨none, some 39, (Op.move (Operand.tmp 1))⟩,
         ⟨none, some 40, (Op.call ⟨(Callee.value (Operand.func 185)), #[(Operand.tmp 38), (Operand.tmp 39)], #[9, 9]⟩)⟩,
         ⟨none, some 41, (Op.move (Operand.tmp 1))⟩,
         ⟨none, some 42, (Op.call ⟨(Callee.value (Operand.func 184)), #[(Operand.tmp 40), (Operand.tmp 41)], #[9, 9]⟩)⟩,
         ⟨none, some 4, (Op.assign (Operand.tmp 42))⟩])
      (.ret)))))
theorem vc132 {args : List AV} {L : List (Nat × Ob)} {R : AV → List (Nat × Ob) → Prop} (ha : args.length ≤ 43) (hL : (L.map (·.1)).Nodup)
    (h : ev Go.Proofs.Tryd.prog ⟨43, L.map (·.1)⟩ ac132 (retQ Go.Proofs.Tryd.prog [(ResultVar.tmp 4)] R) ⟨argT args, hpOf L, Us.of (L.map (·.1))⟩) : ACall Go.Proofs.Tryd.prog 132 args L R :=
  acallA (by kernel_rfl) 43 [(4, [⟨0, [], [], [], [3, 6, 7]⟩, ⟨1, [], [], [], [2, 3, 6, 7]⟩, ⟨2, [], [], [], [3, 6, 7]⟩, ⟨4, [], [], [], [5, 6, 7]⟩, ⟨5, [], [], [], [6, 7]⟩, ⟨3, [], [], [], [6, 7]⟩, ⟨6, [], [], [], [7]⟩, ⟨7, [], [], [], []⟩])] [(ResultVar.tmp 4)] Go.Proofs.Tryd.func132 (by kernel_rfl) Go.Proofs.Tryd.ntmps132 (by kernel_rfl) ha hL (va_of_ev _ h)
theorem en132 : enters Go.Proofs.Tryd.prog 132 = true := by kernel_rfl
def ac181_l0 : ACode :=
  .seq (.seq (.reg [⟨none, some 6, (Op.move (Operand.tmp 4))⟩,
      ⟨none, some 7, (Op.move (Operand.tmp 0))⟩,
      ⟨none, some 8, (Op.call ⟨(Callee.builtin Builtin.len), #[(Operand.tmp 7)], #[9]⟩)⟩,
      ⟨none, some 9, (Op.binOp BinOp.lss 3 (Operand.tmp 6) (Operand.tmp 8) 3)⟩])
   (.cond (Operand.tmp 9) (.skip) (.exit 0)))
  (.seq (.block 1 (.seq (.reg [⟨none, some 12, (Op.move (Operand.tmp 0))⟩,
        ⟨none, some 13, (Op.move (Operand.tmp 4))⟩,
        ⟨none, some 14, (Op.index 9 (Operand.tmp 12) (Operand.tmp 13))⟩,
        ⟨none, some 5, (Op.assign (Operand.tmp 14))⟩])
     (.seq (.seq (.reg [⟨none, some 15, (Op.move (Operand.tmp 5))⟩,
          ⟨none, some 16, (Op.binOp BinOp.geq 5 (Operand.tmp 15) (Operand.const (Value.int IntKind.u8 128)) 5)⟩])
       (.cond (Operand.tmp 16) (.seq (.reg [⟨none, some 17, (Op.load 208 (Operand.tmp 2))⟩,
            ⟨none, none, (Op.store 208 (Operand.tmp 2) (Operand.tmp 17))⟩,
            ⟨none, some 3, (Op.assign (Operand.const (Value.bool false)))⟩])
         (.ret)) (.skip)))
      (.reg [⟨none, some 18, (Op.move (Operand.tmp 5))⟩,
         ⟨none, some 19, (Op.indexAddr 208 (Operand.tmp 2) (Operand.tmp 18))⟩,
         ⟨none, none, (Op.store 4 (Operand.tmp 19) (Operand.const (Value.bool true)))⟩]))))
   (.reg [⟨none, some 10, (Op.move (Operand.tmp 4))⟩,
      ⟨none, some 11, (Op.binOp BinOp.add 3 (Operand.tmp 10) (Operand.const (Value.int IntKind.i64 1)) 3)⟩,
      ⟨none, some 4, (Op.assign (Operand.tmp 11))⟩]))
/-- strings.makeASCIISet -/
def ac181 : ACode :=
  .seq (.reg [⟨none, some 2, (Op.alloc 208)⟩,
     ⟨none, some 3, (Op.assign (Operand.const (Value.bool false)))⟩])
  (.seq (.seq (.reg [⟨none, some 4, (Op.assign (Operand.const (Value.int IntKind.i64 0)))⟩])
    (.block 0 (.loop ac181_l0)))
   (.seq (.reg [⟨none, some 20, (Op.load 208 (Operand.tmp 2))⟩,
       ⟨none, none, (Op.store 208 (Operand.tmp 2) (Operand.tmp 20))⟩,
       ⟨none, some 3, (Op.assign (Operand.const (Value.bool true)))⟩])
    (.ret)))
theorem vc181 {args : List AV} {L : List (Nat × Ob)} {R : AV → List (Nat × Ob) → Prop} (ha : args.length ≤ 21) (hL : (L.map (·.1)).Nodup)
    (h : ev Go.Proofs.Tryd.prog ⟨21, L.map (·.1)⟩ ac181 (retQ Go.Proofs.Tryd.prog [(ResultVar.cell 2 208), (ResultVar.tmp 3)] R) ⟨argT args, hpOf L, Us.of (L.map (·.1))⟩) : ACall Go.Proofs.Tryd.prog 181 args L R :=
  acallA (by kernel_rfl) 21 [] [(ResultVar.cell 2 208), (ResultVar.tmp 3)] Go.Proofs.Tryd.func181 (by kernel_rfl) Go.Proofs.Tryd.ntmps181 (by kernel_rfl) ha hL (va_of_ev _ h)
theorem en181 : enters Go.Proofs.Tryd.prog 181 = true := by kernel_rfl
def ac182_l0 : ACode :=
  .seq (.seq (.reg [⟨none, some 5, (Op.move (Operand.tmp 0))⟩,
      ⟨none, some 6, (Op.call ⟨(Callee.builtin Builtin.len), #[(Operand.tmp 5)], #[9]⟩)⟩,
      ⟨none, some 7, (Op.binOp BinOp.gtr 3 (Operand.tmp 6) (Operand.const (Value.int IntKind.i64 0)) 3)⟩])
   (.cond (Operand.tmp 7) (.skip) (.exit 0)))
  (.block 1 (.seq (.seq (.reg [⟨none, some 8, (Op.move (Operand.tmp 1))⟩,
        ⟨none, some 9, (Op.move (Operand.tmp 0))⟩,
        ⟨none, some 10, (Op.index 9 (Operand.tmp 9) (Operand.const (Value.int IntKind.i64 0)))⟩,
        ⟨none, some 11, (Op.call ⟨(Callee.value (Operand.func 216)), #[(Operand.tmp 8), (Operand.tmp 10)], #[212, 5]⟩)⟩,
        ⟨none, some 12, (Op.unOp UnOp.not 4 (Operand.tmp 11))⟩])
     (.cond (Operand.tmp 12) (.exit 0) (.skip)))
    (.reg [⟨none, some 13, (Op.move (Operand.tmp 0))⟩,
       ⟨none, some 14, (Op.slice 9 (Operand.tmp 13) (some (Operand.const (Value.int IntKind.i64 1))) none none)⟩,
       ⟨none, some 0, (Op.assign (Operand.tmp 14))⟩])))
/-- strings.trimLeftASCII -/
def ac182 : ACode :=
  .seq (.reg [⟨none, some 4, (Op.assign (Operand.const (Value.string ⟨#[]⟩)))⟩])
  (.seq (.block 0 (.loop ac182_l0))
   (.seq (.reg [⟨none, some 15, (Op.move (Operand.tmp 0))⟩,
       ⟨none, some 4, (Op.assign (Operand.tmp 15))⟩])
    (.ret)))
theorem vc182 {args : List AV} {L : List (Nat × Ob)} {R : AV → List (Nat × Ob) → Prop} (ha : args.length ≤ 16) (hL : (L.map (·.1)).Nodup)
    (h : ev Go.Proofs.Tryd.prog ⟨16, L.map (·.1)⟩ ac182 (retQ Go.Proofs.Tryd.prog [(ResultVar.tmp 4)] R) ⟨argT args, hpOf L, Us.of (L.map (·.1))⟩) : ACall Go.Proofs.Tryd.prog 182 args L R :=
  acallA (by kernel_rfl) 16 [] [(ResultVar.tmp 4)] Go.Proofs.Tryd.func182 (by kernel_rfl) Go.Proofs.Tryd.ntmps182 (by kernel_rfl) ha hL (va_of_ev _ h)
theorem en182 : enters Go.Proofs.Tryd.prog 182 = true := by kernel_rfl
def ac183_l0 : ACode :=
  .seq (.seq (.reg [⟨none, some 5, (Op.move (Operand.tmp 0))⟩,
      ⟨none, some 6, (Op.call ⟨(Callee.builtin Builtin.len), #[(Operand.tmp 5)], #[9]⟩)⟩,
      ⟨none, some 7, (Op.binOp BinOp.gtr 3 (Operand.tmp 6) (Operand.const (Value.int IntKind.i64 0)) 3)⟩])
   (.cond (Operand.tmp 7) (.skip) (.exit 0)))
  (.block 1 (.seq (.seq (.reg [⟨none, some 8, (Op.move (Operand.tmp 1))⟩,
        ⟨none, some 9, (Op.move (Operand.tmp 0))⟩,
        ⟨none, some 10, (Op.move (Operand.tmp 0))⟩,
        ⟨none, some 11, (Op.call ⟨(Callee.builtin Builtin.len), #[(Operand.tmp 10)], #[9]⟩)⟩,
        ⟨none, some 12, (Op.binOp BinOp.sub 3 (Operand.tmp 11) (Operand.const (Value.int IntKind.i64 1)) 3)⟩,
        ⟨none, some 13, (Op.index 9 (Operand.tmp 9) (Operand.tmp 12))⟩,
        ⟨none, some 14, (Op.call ⟨(Callee.value (Operand.func 216)), #[(Operand.tmp 8), (Operand.tmp 13)], #[212, 5]⟩)⟩,
        ⟨none, some 15, (Op.unOp UnOp.not 4 (Operand.tmp 14))⟩])
     (.cond (Operand.tmp 15) (.exit 0) (.skip)))
    (.reg [⟨none, some 16, (Op.move (Operand.tmp 0))⟩,
       ⟨none, some 17, (Op.move (Operand.tmp 0))⟩,
       ⟨none, some 18, (Op.call ⟨(Callee.builtin Builtin.len), #[(Operand.tmp 17)], #[9]⟩)⟩,
       ⟨none, some 19, (Op.binOp BinOp.sub 3 (Operand.tmp 18) (Operand.const (Value.int IntKind.i64 1)) 3)⟩,
       ⟨none, some 20, (Op.slice 9 (Operand.tmp 16) none (some (Operand.tmp 19)) none)⟩,
       ⟨none, some 0, (Op.assign (Operand.tmp 20))⟩])))
/-- strings.trimRightASCII -/
def ac183 : ACode :=
  .seq (.reg [⟨none, some 4, (Op.assign (Operand.const (Value.string ⟨#[]⟩)))⟩])
  (.seq (.block 0 (.loop ac183_l0))
   (.seq (.reg [⟨none, some 21, (Op.move (Operand.tmp 0))⟩,
       ⟨none, some 4, (Op.assign (Operand.tmp 21))⟩])
    (.ret)))
theorem vc183 {args : List AV} {L : List (Nat × Ob)} {R : AV → List (Nat × Ob) → Prop} (ha : args.length ≤ 22) (hL : (L.map (·.1)).Nodup)
    (h : ev Go.Proofs.Tryd.prog ⟨22, L.map (·.1)⟩ ac183 (retQ Go.Proofs.Tryd.prog [(ResultVar.tmp 4)] R) ⟨argT args, hpOf L, Us.of (L.map (·.1))⟩) : ACall Go.Proofs.Tryd.prog 183 args L R :=
  acallA (by kernel_rfl) 22 [] [(ResultVar.tmp 4)] Go.Proofs.Tryd.func183 (by kernel_rfl) Go.Proofs.Tryd.ntmps183 (by kernel_rfl) ha hL (va_of_ev _ h)
theorem en183 : enters Go.Proofs.Tryd.prog 183 = true := by kernel_rfl
/-- (*strings.asciiSet).contains -/
def ac216 : ACode :=
  .seq (.reg [⟨none, some 4, (Op.assign (Operand.const (Value.bool false)))⟩])
  (.seq (.reg [⟨none, some 5, (Op.move (Operand.tmp 0))⟩,
      ⟨none, some 6, (Op.move (Operand.tmp 1))⟩,
      ⟨none, some 7, (Op.nilCheck (Operand.tmp 5))⟩,
      ⟨none, some 8, (Op.indexAddr 208 (Operand.tmp 7) (Operand.tmp 6))⟩,
      ⟨none, some 9, (Op.load 4 (Operand.tmp 8))⟩,
      ⟨none, some 4, (Op.assign (Operand.tmp 9))⟩])
   (.ret))
theorem vc216 {args : List AV} {L : List (Nat × Ob)} {R : AV → List (Nat × Ob) → Prop} (ha : args.length ≤ 10) (hL : (L.map (·.1)).Nodup)
    (h : ev Go.Proofs.Tryd.prog ⟨10, L.map (·.1)⟩ ac216 (retQ Go.Proofs.Tryd.prog [(ResultVar.tmp 4)] R) ⟨argT args, hpOf L, Us.of (L.map (·.1))⟩) : ACall Go.Proofs.Tryd.prog 216 args L R :=
  acallA (by kernel_rfl) 10 [] [(ResultVar.tmp 4)] Go.Proofs.Tryd.func216 (by kernel_rfl) Go.Proofs.Tryd.ntmps216 (by kernel_rfl) ha hL (va_of_ev _ h)
theorem en216 : enters Go.Proofs.Tryd.prog 216 = true := by kernel_rfl
def ac72_l0 : ACode :=
  .seq (.reg [⟨none, some 10, (Op.binOp BinOp.lss 3 (Operand.tmp 9) (Operand.tmp 8) 3)⟩])
  (.seq (.cond (Operand.tmp 10) (.skip) (.exit 0))
   (.seq (.block 1 (.seq (.seq (.reg [⟨none, some 11, (Op.fieldAddr 35 (Operand.tmp 3) 2)⟩,
          ⟨none, some 12, (Op.load 9 (Operand.tmp 11))⟩,
          ⟨none, some 13, (Op.binOp BinOp.eql 9 (Operand.tmp 12) (Operand.const (Value.string ⟨#[]⟩)) 9)⟩])
       (.cond (Operand.tmp 13) (.seq (.reg [⟨none, some 14, (Op.fieldAddr 35 (Operand.tmp 3) 1)⟩,
            ⟨none, some 15, (Op.load 3 (Operand.tmp 14))⟩,
            ⟨none, some 16, (Op.binOp BinOp.eql 3 (Operand.tmp 15) (Operand.const (Value.int IntKind.i64 1)) 3)⟩,
            ⟨none, some 4, (Op.assign (Operand.tmp 16))⟩])
         (.ret)) (.skip)))
      (.seq (.reg [⟨none, some 17, (Op.fieldAddr 25 (Operand.tmp 2) 0)⟩,
          ⟨none, some 18, (Op.load 23 (Operand.tmp 17))⟩,
          ⟨none, some 19, (Op.makeFunc (Fn.func 135) #[] #[(Operand.tmp 3)])⟩,
          ⟨none, some 20, (Op.call ⟨(Callee.value (Operand.func 134)), #[(Operand.tmp 18), (Operand.tmp 19)], #[23, 103]⟩)⟩,
          ⟨none, some 5, (Op.assign (Operand.tmp 20))⟩])
       (.seq (.seq (.draw [⟨⟨none, some 21, (Op.move (Operand.tmp 5))⟩, [], [], []⟩,
            ⟨⟨none, some 22, (Op.binOp BinOp.lss 3 (Operand.tmp 21) (Operand.const (Value.int IntKind.i64 0)) 3)⟩, [], [], []⟩,
            ⟨⟨none, some 23, (Op.move (Operand.tmp 22))⟩, [], [], []⟩,
            ⟨⟨some (23, false), some 24, (Op.fieldAddr 25 (Operand.tmp 2) 0)⟩, [], [], []⟩,
            ⟨⟨some (23, false), some 25, (Op.load 23 (Operand.tmp 24))⟩, [2], [], []⟩,
            ⟨⟨some (23, false), some 26, (Op.move (Operand.tmp 5))⟩, [], [2], []⟩,
            ⟨⟨some (23, false), some 27, (Op.indexAddr 23 (Operand.tmp 25) (Operand.tmp 26))⟩, [], [], []⟩,
            ⟨⟨some (23, false), some 28, (Op.fieldAddr 35 (Operand.tmp 27) 1)⟩, [], [], []⟩,
            ⟨⟨some (23, false), some 29, (Op.load 3 (Operand.tmp 28))⟩, [], [], []⟩,
            ⟨⟨some (23, false), some 30, (Op.fieldAddr 35 (Operand.tmp 3) 1)⟩, [], [2], []⟩,
            ⟨⟨some (23, false), some 31, (Op.load 3 (Operand.tmp 30))⟩, [3], [2], []⟩,
            ⟨⟨some (23, false), some 32, (Op.binOp BinOp.eql 3 (Operand.tmp 29) (Operand.tmp 31) 3)⟩, [], [], []⟩,
            ⟨⟨none, some 33, (Op.pick (Operand.tmp 23) (Operand.const (Value.bool true)) (Operand.tmp 32))⟩, [], [], []⟩])
         (.cond (Operand.tmp 33) (.seq (.reg [⟨none, some 4, (Op.assign (Operand.const (Value.bool false)))⟩])
           (.ret)) (.skip)))
        (.reg [⟨none, some 34, (Op.fieldAddr 25 (Operand.tmp 2) 0)⟩,
           ⟨none, some 35, (Op.load 23 (Operand.tmp 34))⟩,
           ⟨none, some 36, (Op.move (Operand.tmp 5))⟩,
           ⟨none, some 37, (Op.indexAddr 23 (Operand.tmp 35) (Operand.tmp 36))⟩,
           ⟨none, some 38, (Op.load 35 (Operand.tmp 37))⟩,
           ⟨none, none, (Op.store 35 (Operand.tmp 3) (Operand.tmp 38))⟩])))))
    (.reg [⟨none, some 39, (Op.binOp BinOp.add 3 (Operand.tmp 9) (Operand.const (Value.int IntKind.i64 1)) 3)⟩,
       ⟨none, some 9, (Op.move (Operand.tmp 39))⟩])))
/-- (impl.Book).leads -/
def ac72 : ACode :=
  .seq (.reg [⟨none, some 2, (Op.box 25 (Operand.tmp 0))⟩,
     ⟨none, some 3, (Op.box 35 (Operand.tmp 1))⟩,
     ⟨none, some 4, (Op.assign (Operand.const (Value.bool false)))⟩])
  (.seq (.seq (.reg [⟨none, some 6, (Op.fieldAddr 25 (Operand.tmp 2) 0)⟩,
       ⟨none, some 7, (Op.load 23 (Operand.tmp 6))⟩,
       ⟨none, some 8, (Op.call ⟨(Callee.builtin Builtin.len), #[(Operand.tmp 7)], #[23]⟩)⟩,
       ⟨none, some 9, (Op.move (Operand.const (Value.int IntKind.i64 0)))⟩])
    (.block 0 (.loop ac72_l0)))
   (.seq (.reg [⟨none, some 4, (Op.assign (Operand.const (Value.bool false)))⟩])
    (.ret)))
theorem vc72 {args : List AV} {L : List (Nat × Ob)} {R : AV → List (Nat × Ob) → Prop} (ha : args.length ≤ 40) (hL : (L.map (·.1)).Nodup)
    (h : ev Go.Proofs.Tryd.prog ⟨40, L.map (·.1)⟩ ac72 (retQ Go.Proofs.Tryd.prog [(ResultVar.tmp 4)] R) ⟨argT args, hpOf L, Us.of (L.map (·.1))⟩) : ACall Go.Proofs.Tryd.prog 72 args L R :=
  acallA (by kernel_rfl) 40 [(6, [⟨0, [], [], [], [1, 2, 3, 4, 5, 6, 7, 8, 9, 10, 11, 12]⟩, ⟨1, [], [], [], [2, 3, 4, 5, 6, 7, 8, 9, 10, 11, 12]⟩, ⟨2, [], [], [], [3, 4, 5, 6, 7, 8, 9, 10, 11, 12]⟩, ⟨3, [], [], [], [4, 6, 7, 8, 11, 12]⟩, ⟨4, [2], [], [], [6, 7, 8, 11, 12]⟩, ⟨5, [], [2], [], [6, 7, 8, 11, 12]⟩, ⟨6, [], [], [], [7, 8, 11, 12]⟩, ⟨7, [], [], [], [8, 11, 12]⟩, ⟨8, [], [], [], [11, 12]⟩, ⟨9, [], [2], [], [10, 11, 12]⟩, ⟨10, [3], [2], [], [11, 12]⟩, ⟨11, [], [], [], [12]⟩, ⟨12, [], [], [], []⟩])] [(ResultVar.tmp 4)] Go.Proofs.Tryd.func72 (by kernel_rfl) Go.Proofs.Tryd.ntmps72 (by kernel_rfl) ha hL (va_of_ev _ h)
theorem en72 : enters Go.Proofs.Tryd.prog 72 = true := by kernel_rfl
def ac134_l0 : ACode :=
  .seq (.reg [⟨none, some 9, (Op.binOp BinOp.lss 3 (Operand.tmp 8) (Operand.tmp 7) 3)⟩])
  (.seq (.cond (Operand.tmp 9) (.skip) (.exit 0))
   (.seq (.block 1 (.seq (.reg [⟨none, some 10, (Op.move (Operand.tmp 8))⟩,
         ⟨none, some 5, (Op.assign (Operand.tmp 10))⟩])
      (.seq (.reg [⟨none, some 11, (Op.move (Operand.tmp 1))⟩,
          ⟨none, some 12, (Op.move (Operand.tmp 0))⟩,
          ⟨none, some 13, (Op.move (Operand.tmp 5))⟩,
          ⟨none, some 14, (Op.indexAddr 23 (Operand.tmp 12) (Operand.tmp 13))⟩,
          ⟨none, some 15, (Op.load 35 (Operand.tmp 14))⟩,
          ⟨none, some 16, (Op.call ⟨(Callee.value (Operand.tmp 11)), #[(Operand.tmp 15)], #[35]⟩)⟩])
       (.cond (Operand.tmp 16) (.seq (.reg [⟨none, some 17, (Op.move (Operand.tmp 5))⟩,
            ⟨none, some 4, (Op.assign (Operand.tmp 17))⟩])
         (.ret)) (.skip)))))
    (.reg [⟨none, some 18, (Op.binOp BinOp.add 3 (Operand.tmp 8) (Operand.const (Value.int IntKind.i64 1)) 3)⟩,
       ⟨none, some 8, (Op.move (Operand.tmp 18))⟩])))
/-- slices.IndexFunc[[]impl.BookSet,impl.BookSet] -/
def ac134 : ACode :=
  .seq (.reg [⟨none, some 4, (Op.assign (Operand.const (Value.int IntKind.i64 0)))⟩])
  (.seq (.seq (.reg [⟨none, some 6, (Op.move (Operand.tmp 0))⟩,
       ⟨none, some 7, (Op.call ⟨(Callee.builtin Builtin.len), #[(Operand.tmp 6)], #[23]⟩)⟩,
       ⟨none, some 8, (Op.move (Operand.const (Value.int IntKind.i64 0)))⟩])
    (.block 0 (.loop ac134_l0)))
   (.seq (.reg [⟨none, some 4, (Op.assign (Operand.const (Value.int IntKind.i64 (-1))))⟩])
    (.ret)))
theorem vc134 {args : List AV} {L : List (Nat × Ob)} {R : AV → List (Nat × Ob) → Prop} (ha : args.length ≤ 19) (hL : (L.map (·.1)).Nodup)
    (h : ev Go.Proofs.Tryd.prog ⟨19, L.map (·.1)⟩ ac134 (retQ Go.Proofs.Tryd.prog [(ResultVar.tmp 4)] R) ⟨argT args, hpOf L, Us.of (L.map (·.1))⟩) : ACall Go.Proofs.Tryd.prog 134 args L R :=
  acallA (by kernel_rfl) 19 [] [(ResultVar.tmp 4)] Go.Proofs.Tryd.func134 (by kernel_rfl) Go.Proofs.Tryd.ntmps134 (by kernel_rfl) ha hL (va_of_ev _ h)
theorem en134 : enters Go.Proofs.Tryd.prog 134 = true := by kernel_rfl
/-- (impl.Book).leads$1 -/
def ac135 : ACode :=
  .seq (.reg [⟨none, some 2, (Op.box 35 (Operand.tmp 0))⟩,
     ⟨none, some 3, (Op.assign (Operand.const (Value.bool false)))⟩])
  (.seq (.reg [⟨none, some 4, (Op.fieldAddr 35 (Operand.tmp 2) 0)⟩,
      ⟨none, some 5, (Op.load 9 (Operand.tmp 4))⟩,
      ⟨none, some 6, (Op.fieldAddr 35 (Operand.tmp 1) 2)⟩,
      ⟨none, some 7, (Op.load 9 (Operand.tmp 6))⟩,
      ⟨none, some 8, (Op.binOp BinOp.eql 9 (Operand.tmp 5) (Operand.tmp 7) 9)⟩,
      ⟨none, some 3, (Op.assign (Operand.tmp 8))⟩])
   (.ret))
theorem vc135 {args : List AV} {L : List (Nat × Ob)} {R : AV → List (Nat × Ob) → Prop} (ha : args.length ≤ 9) (hL : (L.map (·.1)).Nodup)
    (h : ev Go.Proofs.Tryd.prog ⟨9, L.map (·.1)⟩ ac135 (retQ Go.Proofs.Tryd.prog [(ResultVar.tmp 3)] R) ⟨argT args, hpOf L, Us.of (L.map (·.1))⟩) : ACall Go.Proofs.Tryd.prog 135 args L R :=
  acallA (by kernel_rfl) 9 [] [(ResultVar.tmp 3)] Go.Proofs.Tryd.func135 (by kernel_rfl) Go.Proofs.Tryd.ntmps135 (by kernel_rfl) ha hL (va_of_ev _ h)
theorem en135 : enters Go.Proofs.Tryd.prog 135 = true := by kernel_rfl
def ac21_l0 : ACode :=
  .seq (.reg [⟨none, some 13, (Op.binOp BinOp.lss 3 (Operand.tmp 12) (Operand.tmp 11) 3)⟩])
  (.seq (.cond (Operand.tmp 13) (.skip) (.exit 0))
   (.seq (.block 1 (.seq (.reg [⟨none, some 14, (Op.move (Operand.tmp 12))⟩,
         ⟨none, some 15, (Op.indexAddr 23 (Operand.tmp 10) (Operand.tmp 12))⟩,
         ⟨none, some 16, (Op.load 35 (Operand.tmp 15))⟩,
         ⟨none, some 4, (Op.alloc 35)⟩,
         ⟨none, some 3, (Op.assign (Operand.tmp 14))⟩,
         ⟨none, none, (Op.store 35 (Operand.tmp 4) (Operand.tmp 16))⟩])
      (.seq (.draw [⟨⟨none, some 17, (Op.fieldAddr 35 (Operand.tmp 4) 0)⟩, [], [], []⟩,
          ⟨⟨none, some 18, (Op.load 9 (Operand.tmp 17))⟩, [4], [], []⟩,
          ⟨⟨none, some 19, (Op.call ⟨(Callee.value (Operand.func 67)), #[(Operand.tmp 18)], #[9]⟩)⟩, [], [], []⟩,
          ⟨⟨none, some 20, (Op.unOp UnOp.not 4 (Operand.tmp 19))⟩, [], [], []⟩,
          ⟨⟨none, some 21, (Op.move (Operand.tmp 20))⟩, [], [], []⟩,
          ⟨⟨some (21, false), some 22, (Op.move (Operand.tmp 3))⟩, [], [], []⟩,
          ⟨⟨some (21, false), some 23, (Op.binOp BinOp.gtr 3 (Operand.tmp 22) (Operand.const (Value.int IntKind.i64 0)) 3)⟩, [], [], []⟩,
          ⟨⟨some (21, false), some 24, (Op.move (Operand.tmp 23))⟩, [], [], []⟩,
          ⟨⟨some (24, true), some 25, (Op.fieldAddr 25 (Operand.tmp 1) 0)⟩, [], [], []⟩,
          ⟨⟨some (24, true), some 26, (Op.load 23 (Operand.tmp 25))⟩, [1], [], []⟩,
          ⟨⟨some (24, true), some 27, (Op.move (Operand.tmp 3))⟩, [], [1], []⟩,
          ⟨⟨some (24, true), some 28, (Op.binOp BinOp.sub 3 (Operand.tmp 27) (Operand.const (Value.int IntKind.i64 1)) 3)⟩, [], [1], []⟩,
          ⟨⟨some (24, true), some 29, (Op.indexAddr 23 (Operand.tmp 26) (Operand.tmp 28))⟩, [], [], []⟩,
          ⟨⟨some (24, true), some 30, (Op.fieldAddr 35 (Operand.tmp 29) 0)⟩, [], [], []⟩,
          ⟨⟨some (24, true), some 31, (Op.load 9 (Operand.tmp 30))⟩, [], [], []⟩,
          ⟨⟨some (24, true), some 32, (Op.fieldAddr 35 (Operand.tmp 4) 0)⟩, [], [1], []⟩,
          ⟨⟨some (24, true), some 33, (Op.load 9 (Operand.tmp 32))⟩, [4], [1], []⟩,
          ⟨⟨some (24, true), some 34, (Op.binOp BinOp.geq 9 (Operand.tmp 31) (Operand.tmp 33) 9)⟩, [], [], []⟩,
          ⟨⟨some (21, false), some 35, (Op.pick (Operand.tmp 24) (Operand.tmp 34) (Operand.const (Value.bool false)))⟩, [], [], []⟩,
          ⟨⟨none, some 36, (Op.pick (Operand.tmp 21) (Operand.const (Value.bool true)) (Operand.tmp 35))⟩, [], [], []⟩,
          ⟨⟨none, some 37, (Op.move (Operand.tmp 36))⟩, [], [], []⟩,
          ⟨⟨some (37, false), some 38, (Op.fieldAddr 35 (Operand.tmp 4) 1)⟩, [], [], []⟩,
          ⟨⟨some (37, false), some 39, (Op.load 3 (Operand.tmp 38))⟩, [4], [], []⟩,
          ⟨⟨some (37, false), some 40, (Op.binOp BinOp.neq 3 (Operand.tmp 39) (Operand.const (Value.int IntKind.i64 1)) 3)⟩, [], [], []⟩,
          ⟨⟨some (37, false), some 41, (Op.move (Operand.tmp 40))⟩, [], [], []⟩,
          ⟨⟨some (41, true), some 42, (Op.fieldAddr 35 (Operand.tmp 4) 1)⟩, [], [], []⟩,
          ⟨⟨some (41, true), some 43, (Op.load 3 (Operand.tmp 42))⟩, [4], [], []⟩,
          ⟨⟨some (41, true), some 44, (Op.binOp BinOp.neq 3 (Operand.tmp 43) (Operand.const (Value.int IntKind.i64 2)) 3)⟩, [], [], []⟩,
          ⟨⟨some (37, false), some 45, (Op.pick (Operand.tmp 41) (Operand.tmp 44) (Operand.const (Value.bool false)))⟩, [], [], []⟩,
          ⟨⟨none, some 46, (Op.pick (Operand.tmp 37) (Operand.const (Value.bool true)) (Operand.tmp 45))⟩, [], [], []⟩,
          ⟨⟨none, some 47, (Op.move (Operand.tmp 46))⟩, [], [], []⟩,
          ⟨⟨some (47, false), some 48, (Op.fieldAddr 35 (Operand.tmp 4) 3)⟩, [], [], []⟩,
          ⟨⟨some (47, false), some 49, (Op.slice 33 (Operand.tmp 48) none none none)⟩, [], [], []⟩,
          ⟨⟨some (47, false), some 50, (Op.call ⟨(Callee.value (Operand.func 68)), #[(Operand.tmp 49), (Operand.func 69)], #[42, 95]⟩)⟩, [], [], []⟩,
          ⟨⟨none, some 51, (Op.pick (Operand.tmp 47) (Operand.const (Value.bool true)) (Operand.tmp 50))⟩, [], [], []⟩])
       (.cond (Operand.tmp 51) (.seq (.reg [⟨none, some 2, (Op.assign (Operand.const (Value.bool false)))⟩])
         (.ret)) (.skip)))))
    (.reg [⟨none, some 52, (Op.binOp BinOp.add 3 (Operand.tmp 12) (Operand.const (Value.int IntKind.i64 1)) 3)⟩,
       ⟨none, some 12, (Op.move (Operand.tmp 52))⟩])))
/-- impl.BookOk -/
def ac21 : ACode :=
  .seq (.reg [⟨none, some 1, (Op.box 25 (Operand.tmp 0))⟩,
     ⟨none, some 2, (Op.assign (Operand.const (Value.bool false)))⟩])
  (.seq (.seq (.reg [⟨none, some 5, (Op.fieldAddr 25 (Operand.tmp 1) 0)⟩,
       ⟨none, some 6, (Op.load 23 (Operand.tmp 5))⟩,
       ⟨none, some 7, (Op.call ⟨(Callee.builtin Builtin.len), #[(Operand.tmp 6)], #[23]⟩)⟩,
       ⟨none, some 8, (Op.binOp BinOp.gtr 3 (Operand.tmp 7) (Operand.const (Value.int IntKind.i64 6)) 3)⟩])
    (.cond (Operand.tmp 8) (.seq (.reg [⟨none, some 2, (Op.assign (Operand.const (Value.bool false)))⟩])
      (.ret)) (.skip)))
   (.seq (.seq (.reg [⟨none, some 9, (Op.fieldAddr 25 (Operand.tmp 1) 0)⟩,
        ⟨none, some 10, (Op.load 23 (Operand.tmp 9))⟩,
        ⟨none, some 11, (Op.call ⟨(Callee.builtin Builtin.len), #[(Operand.tmp 10)], #[23]⟩)⟩,
        ⟨none, some 12, (Op.move (Operand.const (Value.int IntKind.i64 0)))⟩])
     (.block 0 (.loop ac21_l0)))
    (.seq (.reg [⟨none, some 53, (Op.fieldAddr 25 (Operand.tmp 1) 0)⟩,
        ⟨none, some 54, (Op.load 23 (Operand.tmp 53))⟩,
        ⟨none, some 55, (Op.makeFunc (Fn.func 71) #[] #[(Operand.tmp 1)])⟩,
        ⟨none, some 56, (Op.call ⟨(Callee.value (Operand.func 70)), #[(Operand.tmp 54), (Operand.tmp 55)], #[23, 103]⟩)⟩,
        ⟨none, some 57, (Op.unOp UnOp.not 4 (Operand.tmp 56))⟩,
        ⟨none, some 2, (Op.assign (Operand.tmp 57))⟩])
     (.ret))))
theorem vc21 {args : List AV} {L : List (Nat × Ob)} {R : AV → List (Nat × Ob) → Prop} (ha : args.length ≤ 58) (hL : (L.map (·.1)).Nodup)
    (h : ev Go.Proofs.Tryd.prog ⟨58, L.map (·.1)⟩ ac21 (retQ Go.Proofs.Tryd.prog [(ResultVar.tmp 2)] R) ⟨argT args, hpOf L, Us.of (L.map (·.1))⟩) : ACall Go.Proofs.Tryd.prog 21 args L R :=
  acallA (by kernel_rfl) 58 [(6, [⟨0, [], [], [], [1, 2, 3, 4, 5, 6, 7, 8, 9, 10, 11, 12, 13, 14, 15, 16, 17, 18, 19, 20, 21, 22, 23, 24, 25, 26, 27, 28, 29, 30, 31, 32, 33, 34]⟩, ⟨1, [4], [], [], [2, 3, 4, 5, 6, 7, 8, 9, 10, 11, 12, 13, 14, 15, 16, 17, 18, 19, 20, 21, 22, 23, 24, 25, 26, 27, 28, 29, 30, 31, 32, 33, 34]⟩, ⟨2, [], [], [], [3, 4, 5, 6, 7, 8, 9, 10, 11, 12, 13, 14, 15, 16, 17, 18, 19, 20, 21, 22, 23, 24, 25, 26, 27, 28, 29, 30, 31, 32, 33, 34]⟩, ⟨3, [], [], [], [4, 5, 6, 7, 8, 9, 10, 11, 12, 13, 14, 15, 16, 17, 18, 19, 20, 21, 22, 23, 24, 25, 26, 27, 28, 29, 30, 31, 32, 33, 34]⟩, ⟨4, [], [], [], [5, 6, 7, 8, 9, 10, 11, 12, 13, 14, 15, 16, 17, 18, 19, 20, 21, 22, 23, 24, 25, 26, 27, 28, 29, 30, 31, 32, 33, 34]⟩, ⟨5, [], [], [], [6, 7, 8, 9, 10, 11, 12, 13, 14, 15, 16, 17, 18, 19, 20, 21, 22, 23, 24, 25, 26, 27, 28, 29, 30, 31, 32, 33, 34]⟩, ⟨6, [], [], [], [7, 8, 9, 10, 11, 12, 13, 14, 15, 16, 17, 18, 19, 20, 21, 22, 23, 24, 25, 26, 27, 28, 29, 30, 31, 32, 33, 34]⟩, ⟨7, [], [], [], [8, 9, 10, 11, 12, 13, 14, 15, 16, 17, 18, 19, 20, 21, 22, 23, 24, 25, 26, 27, 28, 29, 30, 31, 32, 33, 34]⟩, ⟨8, [], [], [], [9, 12, 13, 14, 17, 18, 19, 20, 21, 22, 23, 24, 25, 26, 27, 28, 29, 30, 31, 32, 33, 34]⟩, ⟨9, [1], [], [], [12, 13, 14, 17, 18, 19, 20, 21, 22, 23, 24, 25, 26, 27, 28, 29, 30, 31, 32, 33, 34]⟩, ⟨10, [], [1], [], [11, 12, 13, 14, 17, 18, 19, 20, 21, 22, 23, 24, 25, 26, 27, 28, 29, 30, 31, 32, 33, 34]⟩, ⟨11, [], [1], [], [12, 13, 14, 17, 18, 19, 20, 21, 22, 23, 24, 25, 26, 27, 28, 29, 30, 31, 32, 33, 34]⟩, ⟨12, [], [], [], [13, 14, 17, 18, 19, 20, 21, 22, 23, 24, 25, 26, 27, 28, 29, 30, 31, 32, 33, 34]⟩, ⟨13, [], [], [], [14, 17, 18, 19, 20, 21, 22, 23, 24, 25, 26, 27, 28, 29, 30, 31, 32, 33, 34]⟩, ⟨14, [], [], [], [17, 18, 19, 20, 21, 22, 23, 24, 25, 26, 27, 28, 29, 30, 31, 32, 33, 34]⟩, ⟨15, [], [1], [], [16, 17, 18, 19, 20, 21, 22, 23, 24, 25, 26, 27, 28, 29, 30, 31, 32, 33, 34]⟩, ⟨16, [4], [1], [], [17, 18, 19, 20, 21, 22, 23, 24, 25, 26, 27, 28, 29, 30, 31, 32, 33, 34]⟩, ⟨17, [], [], [], [18, 19, 20, 21, 22, 23, 24, 25, 26, 27, 28, 29, 30, 31, 32, 33, 34]⟩, ⟨18, [], [], [], [19, 20, 21, 22, 23, 24, 25, 26, 27, 28, 29, 30, 31, 32, 33, 34]⟩, ⟨19, [], [], [], [20, 21, 22, 23, 24, 25, 26, 27, 28, 29, 30, 31, 32, 33, 34]⟩, ⟨20, [], [], [], [21, 22, 23, 24, 25, 26, 27, 28, 29, 30, 31, 32, 33, 34]⟩, ⟨21, [], [], [], [22, 23, 24, 25, 26, 27, 28, 29, 30, 31, 32, 33, 34]⟩, ⟨22, [4], [], [], [23, 24, 25, 26, 27, 28, 29, 30, 31, 32, 33, 34]⟩, ⟨23, [], [], [], [24, 25, 26, 27, 28, 29, 30, 31, 32, 33, 34]⟩, ⟨24, [], [], [], [25, 26, 27, 28, 29, 30, 31, 32, 33, 34]⟩, ⟨25, [], [], [], [26, 27, 28, 29, 30, 31, 32, 33, 34]⟩, ⟨26, [4], [], [], [27, 28, 29, 30, 31, 32, 33, 34]⟩, ⟨27, [], [], [], [28, 29, 30, 31, 32, 33, 34]⟩, ⟨28, [], [], [], [29, 30, 31, 32, 33, 34]⟩, ⟨29, [], [], [], [30, 31, 32, 33, 34]⟩, ⟨30, [], [], [], [31, 32, 33, 34]⟩, ⟨31, [], [], [], [32, 33, 34]⟩, ⟨32, [], [], [], [33, 34]⟩, ⟨33, [], [], [], [34]⟩, ⟨34, [], [], [], []⟩])] [(ResultVar.tmp 2)] Go.Proofs.Tryd.func21 (by kernel_rfl) Go.Proofs.Tryd.ntmps21 (by kernel_rfl) ha hL (va_of_ev _ h)
theorem en21 : enters Go.Proofs.Tryd.prog 21 = true := by kernel_rfl
/-- slices.ContainsFunc[[]string,string] -/
def ac68 : ACode :=
  .seq (.reg [⟨none, some 4, (Op.assign (Operand.const (Value.bool false)))⟩])
  (.seq (.reg [⟨none, some 5, (Op.move (Operand.tmp 0))⟩,
      ⟨none, some 6, (Op.move (Operand.tmp 1))⟩,
      ⟨none, some 7, (Op.call ⟨(Callee.value (Operand.func 133)), #[(Operand.tmp 5), (Operand.tmp 6)], #[42, 95]⟩)⟩,
      ⟨none, some 8, (Op.binOp BinOp.geq 3 (Operand.tmp 7) (Operand.const (Value.int IntKind.i64 0)) 3)⟩,
      ⟨none, some 4, (Op.assign (Operand.tmp 8))⟩])
   (.ret))
theorem vc68 {args : List AV} {L : List (Nat × Ob)} {R : AV → List (Nat × Ob) → Prop} (ha : args.length ≤ 9) (hL : (L.map (·.1)).Nodup)
    (h : ev Go.Proofs.Tryd.prog ⟨9, L.map (·.1)⟩ ac68 (retQ Go.Proofs.Tryd.prog [(ResultVar.tmp 4)] R) ⟨argT args, hpOf L, Us.of (L.map (·.1))⟩) : ACall Go.Proofs.Tryd.prog 68 args L R :=
  acallA (by kernel_rfl) 9 [] [(ResultVar.tmp 4)] Go.Proofs.Tryd.func68 (by kernel_rfl) Go.Proofs.Tryd.ntmps68 (by kernel_rfl) ha hL (va_of_ev _ h)
theorem en68 : enters Go.Proofs.Tryd.prog 68 = true := by kernel_rfl
/-- impl.BookOk$1 -/
def ac69 : ACode :=
  .seq (.reg [⟨none, some 2, (Op.assign (Operand.const (Value.bool false)))⟩])
  (.seq (.reg [⟨none, some 3, (Op.move (Operand.tmp 0))⟩,
      ⟨none, some 4, (Op.call ⟨(Callee.builtin Builtin.len), #[(Operand.tmp 3)], #[9]⟩)⟩,
      ⟨none, some 5, (Op.binOp BinOp.gtr 3 (Operand.tmp 4) (Operand.const (Value.int IntKind.i64 24)) 3)⟩,
      ⟨none, some 2, (Op.assign (Operand.tmp 5))⟩])
   (.ret))
theorem vc69 {args : List AV} {L : List (Nat × Ob)} {R : AV → List (Nat × Ob) → Prop} (ha : args.length ≤ 6) (hL : (L.map (·.1)).Nodup)
    (h : ev Go.Proofs.Tryd.prog ⟨6, L.map (·.1)⟩ ac69 (retQ Go.Proofs.Tryd.prog [(ResultVar.tmp 2)] R) ⟨argT args, hpOf L, Us.of (L.map (·.1))⟩) : ACall Go.Proofs.Tryd.prog 69 args L R :=
  acallA (by kernel_rfl) 6 [] [(ResultVar.tmp 2)] Go.Proofs.Tryd.func69 (by kernel_rfl) Go.Proofs.Tryd.ntmps69 (by kernel_rfl) ha hL (va_of_ev _ h)
theorem en69 : enters Go.Proofs.Tryd.prog 69 = true := by kernel_rfl
/-- slices.ContainsFunc[[]impl.BookSet,impl.BookSet] -/
def ac70 : ACode :=
  .seq (.reg [⟨none, some 4, (Op.assign (Operand.const (Value.bool false)))⟩])
  (.seq (.reg [⟨none, some 5, (Op.move (Operand.tmp 0))⟩,
      ⟨none, some 6, (Op.move (Operand.tmp 1))⟩,
      ⟨none, some 7, (Op.call ⟨(Callee.value (Operand.func 134)), #[(Operand.tmp 5), (Operand.tmp 6)], #[23, 103]⟩)⟩,
      ⟨none, some 8, (Op.binOp BinOp.geq 3 (Operand.tmp 7) (Operand.const (Value.int IntKind.i64 0)) 3)⟩,
      ⟨none, some 4, (Op.assign (Operand.tmp 8))⟩])
   (.ret))
theorem vc70 {args : List AV} {L : List (Nat × Ob)} {R : AV → List (Nat × Ob) → Prop} (ha : args.length ≤ 9) (hL : (L.map (·.1)).Nodup)
    (h : ev Go.Proofs.Tryd.prog ⟨9, L.map (·.1)⟩ ac70 (retQ Go.Proofs.Tryd.prog [(ResultVar.tmp 4)] R) ⟨argT args, hpOf L, Us.of (L.map (·.1))⟩) : ACall Go.Proofs.Tryd.prog 70 args L R :=
  acallA (by kernel_rfl) 9 [] [(ResultVar.tmp 4)] Go.Proofs.Tryd.func70 (by kernel_rfl) Go.Proofs.Tryd.ntmps70 (by kernel_rfl) ha hL (va_of_ev _ h)
theorem en70 : enters Go.Proofs.Tryd.prog 70 = true := by kernel_rfl
/-- impl.BookOk$2 -/
def ac71 : ACode :=
  .seq (.reg [⟨none, some 2, (Op.box 35 (Operand.tmp 0))⟩,
     ⟨none, some 3, (Op.assign (Operand.const (Value.bool false)))⟩])
  (.seq (.reg [⟨none, some 4, (Op.load 25 (Operand.tmp 1))⟩,
      ⟨none, some 5, (Op.load 35 (Operand.tmp 2))⟩,
      ⟨none, some 6, (Op.call ⟨(Callee.value (Operand.func 72)), #[(Operand.tmp 4), (Operand.tmp 5)], #[25, 35]⟩)⟩,
      ⟨none, some 7, (Op.unOp UnOp.not 4 (Operand.tmp 6))⟩,
      ⟨none, some 3, (Op.assign (Operand.tmp 7))⟩])
   (.ret))
theorem vc71 {args : List AV} {L : List (Nat × Ob)} {R : AV → List (Nat × Ob) → Prop} (ha : args.length ≤ 8) (hL : (L.map (·.1)).Nodup)
    (h : ev Go.Proofs.Tryd.prog ⟨8, L.map (·.1)⟩ ac71 (retQ Go.Proofs.Tryd.prog [(ResultVar.tmp 3)] R) ⟨argT args, hpOf L, Us.of (L.map (·.1))⟩) : ACall Go.Proofs.Tryd.prog 71 args L R :=
  acallA (by kernel_rfl) 8 [] [(ResultVar.tmp 3)] Go.Proofs.Tryd.func71 (by kernel_rfl) Go.Proofs.Tryd.ntmps71 (by kernel_rfl) ha hL (va_of_ev _ h)
theorem en71 : enters Go.Proofs.Tryd.prog 71 = true := by kernel_rfl
/-- (impl.Book).own -/
def ac58 : ACode :=
  .seq (.reg [⟨none, some 1, (Op.box 25 (Operand.tmp 0))⟩,
     ⟨none, some 2, (Op.alloc 25)⟩])
  (.seq (.reg [⟨none, some 3, (Op.fieldAddr 25 (Operand.tmp 1) 0)⟩,
      ⟨none, some 4, (Op.load 23 (Operand.tmp 3))⟩,
      ⟨none, some 5, (Op.call ⟨(Callee.value (Operand.func 120)), #[(Operand.tmp 4)], #[23]⟩)⟩,
      ⟨none, some 6, (Op.build 25 #[(0, (Operand.tmp 5))])⟩,
      ⟨none, none, (Op.store 25 (Operand.tmp 2) (Operand.tmp 6))⟩])
   (.ret))
theorem vc58 {args : List AV} {L : List (Nat × Ob)} {R : AV → List (Nat × Ob) → Prop} (ha : args.length ≤ 7) (hL : (L.map (·.1)).Nodup)
    (h : ev Go.Proofs.Tryd.prog ⟨7, L.map (·.1)⟩ ac58 (retQ Go.Proofs.Tryd.prog [(ResultVar.cell 2 25)] R) ⟨argT args, hpOf L, Us.of (L.map (·.1))⟩) : ACall Go.Proofs.Tryd.prog 58 args L R :=
  acallA (by kernel_rfl) 7 [] [(ResultVar.cell 2 25)] Go.Proofs.Tryd.func58 (by kernel_rfl) Go.Proofs.Tryd.ntmps58 (by kernel_rfl) ha hL (va_of_ev _ h)
theorem en58 : enters Go.Proofs.Tryd.prog 58 = true := by kernel_rfl
/-- slices.Clone[[]impl.BookSet,impl.BookSet] -/
def ac120 : ACode :=
  .seq (.reg [⟨none, some 2, (Op.assign (Operand.const (Value.slice none 0 0)))⟩])
  (.seq (.seq (.reg [⟨none, some 3, (Op.move (Operand.tmp 0))⟩,
       ⟨none, some 4, (Op.binOp BinOp.eql 23 (Operand.tmp 3) (Operand.const (Value.slice none 0 0)) 23)⟩])
    (.cond (Operand.tmp 4) (.seq (.reg [⟨none, some 2, (Op.assign (Operand.const (Value.slice none 0 0)))⟩])
      (.ret)) (.skip)))
   (.seq (.reg [⟨none, some 5, (Op.buildSlice 23 0 #[])⟩,
       ⟨none, some 6, (Op.move (Operand.tmp 0))⟩,
       ⟨none, some 7, (Op.call ⟨(Callee.builtin Builtin.append), #[(Operand.tmp 5), (Operand.tmp 6)], #[23, 23]⟩)⟩,
       ⟨none, some 2, (Op.assign (Operand.tmp 7))⟩])
    (.ret)))
theorem vc120 {args : List AV} {L : List (Nat × Ob)} {R : AV → List (Nat × Ob) → Prop} (ha : args.length ≤ 8) (hL : (L.map (·.1)).Nodup)
    (h : ev Go.Proofs.Tryd.prog ⟨8, L.map (·.1)⟩ ac120 (retQ Go.Proofs.Tryd.prog [(ResultVar.tmp 2)] R) ⟨argT args, hpOf L, Us.of (L.map (·.1))⟩) : ACall Go.Proofs.Tryd.prog 120 args L R :=
  acallA (by kernel_rfl) 8 [] [(ResultVar.tmp 2)] Go.Proofs.Tryd.func120 (by kernel_rfl) Go.Proofs.Tryd.ntmps120 (by kernel_rfl) ha hL (va_of_ev _ h)
theorem en120 : enters Go.Proofs.Tryd.prog 120 = true := by kernel_rfl
/-- (impl.Book).creates -/
def ac176 : ACode :=
  .seq (.reg [⟨none, some 2, (Op.box 25 (Operand.tmp 0))⟩,
     ⟨none, some 4, (Op.assign (Operand.const (Value.int IntKind.i64 0)))⟩])
  (.seq (.reg [⟨none, some 8, (Op.load 25 (Operand.tmp 2))⟩,
      ⟨none, some 9, (Op.move (Operand.tmp 1))⟩,
      ⟨none, some 10, (Op.call ⟨(Callee.value (Operand.func 65)), #[(Operand.tmp 8), (Operand.tmp 9)], #[25, 9]⟩)⟩,
      ⟨none, some 7, (Op.move (Operand.tmp 10))⟩,
      ⟨none, some 11, (Op.extract (Operand.tmp 7) 0)⟩,
      ⟨none, some 12, (Op.extract (Operand.tmp 7) 1)⟩,
      ⟨none, some 5, (Op.assign (Operand.tmp 11))⟩,
      ⟨none, some 6, (Op.assign (Operand.tmp 12))⟩])
   (.seq (.block 0 (.seq (.reg [⟨none, some 14, (Op.move (Operand.tmp 1))⟩,
         ⟨none, some 15, (Op.call ⟨(Callee.value (Operand.func 67)), #[(Operand.tmp 14)], #[9]⟩)⟩,
         ⟨none, some 16, (Op.unOp UnOp.not 4 (Operand.tmp 15))⟩,
         ⟨none, some 13, (Op.assign (Operand.tmp 16))⟩])
      (.cond (Operand.tmp 13) (.seq (.reg [⟨none, some 4, (Op.assign (Operand.const (Value.int IntKind.i64 5)))⟩])
        (.ret)) (.seq (.reg [⟨none, some 18, (Op.move (Operand.tmp 6))⟩,
           ⟨none, some 17, (Op.assign (Operand.tmp 18))⟩])
        (.cond (Operand.tmp 17) (.seq (.reg [⟨none, some 4, (Op.assign (Operand.const (Value.int IntKind.i64 2)))⟩])
          (.ret)) (.seq (.reg [⟨none, some 20, (Op.fieldAddr 25 (Operand.tmp 2) 0)⟩,
             ⟨none, some 21, (Op.load 23 (Operand.tmp 20))⟩,
             ⟨none, some 22, (Op.call ⟨(Callee.builtin Builtin.len), #[(Operand.tmp 21)], #[23]⟩)⟩,
             ⟨none, some 23, (Op.binOp BinOp.eql 3 (Operand.tmp 22) (Operand.const (Value.int IntKind.i64 6)) 3)⟩,
             ⟨none, some 19, (Op.assign (Operand.tmp 23))⟩])
          (.cond (Operand.tmp 19) (.seq (.reg [⟨none, some 4, (Op.assign (Operand.const (Value.int IntKind.i64 4)))⟩])
            (.ret)) (.skip))))))))
    (.seq (.reg [⟨none, some 4, (Op.assign (Operand.const (Value.int IntKind.i64 0)))⟩])
     (.ret))))
theorem vc176 {args : List AV} {L : List (Nat × Ob)} {R : AV → List (Nat × Ob) → Prop} (ha : args.length ≤ 24) (hL : (L.map (·.1)).Nodup)
    (h : ev Go.Proofs.Tryd.prog ⟨24, L.map (·.1)⟩ ac176 (retQ Go.Proofs.Tryd.prog [(ResultVar.tmp 4)] R) ⟨argT args, hpOf L, Us.of (L.map (·.1))⟩) : ACall Go.Proofs.Tryd.prog 176 args L R :=
  acallA (by kernel_rfl) 24 [] [(ResultVar.tmp 4)] Go.Proofs.Tryd.func176 (by kernel_rfl) Go.Proofs.Tryd.ntmps176 (by kernel_rfl) ha hL (va_of_ev _ h)
theorem en176 : enters Go.Proofs.Tryd.prog 176 = true := by kernel_rfl
/-- (*impl.Book).add -/
def ac121 : ACode :=
  .seq (.reg [⟨none, some 3, (Op.box 35 (Operand.tmp 1))⟩,
     ⟨none, some 4, (Op.assign (Operand.const (Value.int IntKind.i64 0)))⟩])
  (.seq (.draw [⟨⟨none, some 8, (Op.move (Operand.tmp 0))⟩, [], [], []⟩,
      ⟨⟨none, some 9, (Op.nilCheck (Operand.tmp 8))⟩, [], [], []⟩,
      ⟨⟨none, some 10, (Op.load 25 (Operand.tmp 9))⟩, [1000], [], []⟩,
      ⟨⟨none, some 11, (Op.fieldAddr 35 (Operand.tmp 3) 0)⟩, [], [1000], []⟩,
      ⟨⟨none, some 12, (Op.load 9 (Operand.tmp 11))⟩, [3], [1000], []⟩,
      ⟨⟨none, some 13, (Op.call ⟨(Callee.value (Operand.func 176)), #[(Operand.tmp 10), (Operand.tmp 12)], #[158, 9]⟩)⟩, [], [], []⟩,
      ⟨⟨none, some 5, (Op.assign (Operand.tmp 13))⟩, [], [], []⟩])
   (.seq (.seq (.reg [⟨none, some 14, (Op.move (Operand.tmp 5))⟩,
        ⟨none, some 15, (Op.binOp BinOp.eql 3 (Operand.tmp 14) (Operand.const (Value.int IntKind.i64 0)) 3)⟩])
     (.cond (Operand.tmp 15) (.seq (.draw [⟨⟨none, some 17, (Op.move (Operand.tmp 0))⟩, [], [], []⟩,
          ⟨⟨none, some 18, (Op.nilCheck (Operand.tmp 17))⟩, [], [], []⟩,
          ⟨⟨none, some 19, (Op.load 25 (Operand.tmp 18))⟩, [1000], [], []⟩,
          ⟨⟨none, some 20, (Op.fieldAddr 35 (Operand.tmp 3) 0)⟩, [], [1000], []⟩,
          ⟨⟨none, some 21, (Op.load 9 (Operand.tmp 20))⟩, [3], [1000], []⟩,
          ⟨⟨none, some 22, (Op.call ⟨(Callee.value (Operand.func 65)), #[(Operand.tmp 19), (Operand.tmp 21)], #[158, 9]⟩)⟩, [], [], []⟩,
          ⟨⟨none, some 16, (Op.move (Operand.tmp 22))⟩, [], [], []⟩,
          ⟨⟨none, some 23, (Op.extract (Operand.tmp 16) 0)⟩, [], [], []⟩,
          ⟨⟨none, some 24, (Op.extract (Operand.tmp 16) 1)⟩, [], [], []⟩,
          ⟨⟨none, some 6, (Op.assign (Operand.tmp 23))⟩, [], [], []⟩,
          ⟨⟨none, some 7, (Op.assign (Operand.tmp 24))⟩, [], [], []⟩])
       (.draw [⟨⟨none, some 25, (Op.move (Operand.tmp 0))⟩, [], [], []⟩,
          ⟨⟨none, some 26, (Op.move (Operand.tmp 0))⟩, [], [], []⟩,
          ⟨⟨none, some 27, (Op.nilCheck (Operand.tmp 26))⟩, [], [], []⟩,
          ⟨⟨none, some 28, (Op.fieldAddr 25 (Operand.tmp 27) 0)⟩, [], [], []⟩,
          ⟨⟨none, some 29, (Op.load 23 (Operand.tmp 28))⟩, [1000], [], []⟩,
          ⟨⟨none, some 30, (Op.move (Operand.tmp 6))⟩, [], [1000], []⟩,
          ⟨⟨none, some 31, (Op.load 35 (Operand.tmp 3))⟩, [3], [1000], []⟩,
          ⟨⟨none, some 32, (Op.buildSlice 23 1 #[(0, (Operand.tmp 31))])⟩, [], [1000], []⟩,
          ⟨⟨none, some 33, (Op.call ⟨(Callee.value (Operand.func 177)), #[(Operand.tmp 29), (Operand.tmp 30), (Operand.tmp 32)], #[23, 3, 23]⟩)⟩, [], [], []⟩,
          ⟨⟨none, some 34, (Op.nilCheck (Operand.tmp 25))⟩, [], [], []⟩,
          ⟨⟨none, some 35, (Op.fieldAddr 25 (Operand.tmp 34) 0)⟩, [], [], []⟩,
          ⟨⟨none, none, (Op.store 23 (Operand.tmp 35) (Operand.tmp 33))⟩, [], [], []⟩])) (.skip)))
    (.seq (.reg [⟨none, some 36, (Op.move (Operand.tmp 5))⟩,
        ⟨none, some 4, (Op.assign (Operand.tmp 36))⟩])
     (.ret))))
theorem vc121 {args : List AV} {L : List (Nat × Ob)} {R : AV → List (Nat × Ob) → Prop} (ha : args.length ≤ 37) (hL : (L.map (·.1)).Nodup)
    (h : ev Go.Proofs.Tryd.prog ⟨37, L.map (·.1)⟩ ac121 (retQ Go.Proofs.Tryd.prog [(ResultVar.tmp 4)] R) ⟨argT args, hpOf L, Us.of (L.map (·.1))⟩) : ACall Go.Proofs.Tryd.prog 121 args L R :=
  acallA (by kernel_rfl) 37 [(1, [⟨0, [], [], [], [1, 2, 5, 6]⟩, ⟨1, [], [], [], [2, 5, 6]⟩, ⟨2, [1000], [], [], [5, 6]⟩, ⟨3, [], [1000], [], [4, 5, 6]⟩, ⟨4, [3], [1000], [], [5, 6]⟩, ⟨5, [], [], [], [6]⟩, ⟨6, [], [], [], []⟩]), (3, [⟨0, [], [], [], [1, 2, 5, 6, 7, 8, 9, 10]⟩, ⟨1, [], [], [], [2, 5, 6, 7, 8, 9, 10]⟩, ⟨2, [1000], [], [], [5, 6, 7, 8, 9, 10]⟩, ⟨3, [], [1000], [], [4, 5, 6, 7, 8, 9, 10]⟩, ⟨4, [3], [1000], [], [5, 6, 7, 8, 9, 10]⟩, ⟨5, [], [], [], [6, 7, 8, 9, 10]⟩, ⟨6, [], [], [], [7, 8, 9, 10]⟩, ⟨7, [], [], [], [9, 10]⟩, ⟨8, [], [], [], [10]⟩, ⟨9, [], [], [], [10]⟩, ⟨10, [], [], [], []⟩]), (4, [⟨0, [], [], [], [9, 10, 11]⟩, ⟨1, [], [], [], [2, 3, 4, 8, 9, 10, 11]⟩, ⟨2, [], [], [], [3, 4, 8, 9, 10, 11]⟩, ⟨3, [], [], [], [4, 8, 9, 10, 11]⟩, ⟨4, [1000], [], [], [8, 9, 10, 11]⟩, ⟨5, [], [1000], [], [8, 9, 10, 11]⟩, ⟨6, [3], [1000], [], [7, 8, 9, 10, 11]⟩, ⟨7, [], [1000], [], [8, 9, 10, 11]⟩, ⟨8, [], [], [], [9, 10, 11]⟩, ⟨9, [], [], [], [10, 11]⟩, ⟨10, [], [], [], [11]⟩, ⟨11, [], [], [], []⟩])] [(ResultVar.tmp 4)] Go.Proofs.Tryd.func121 (by kernel_rfl) Go.Proofs.Tryd.ntmps121 (by kernel_rfl) ha hL (va_of_ev _ h)
theorem en121 : enters Go.Proofs.Tryd.prog 121 = true := by kernel_rfl
/-- (*impl.Book).do$1 -/
def ac122 : ACode :=
  .seq (.reg [⟨none, some 2, (Op.box 35 (Operand.tmp 0))⟩,
     ⟨none, some 3, (Op.assign (Operand.const (Value.bool false)))⟩])
  (.seq (.reg [⟨none, some 4, (Op.fieldAddr 35 (Operand.tmp 2) 2)⟩,
      ⟨none, some 5, (Op.load 9 (Operand.tmp 4))⟩,
      ⟨none, some 6, (Op.fieldAddr 27 (Operand.tmp 1) 1)⟩,
      ⟨none, some 7, (Op.load 9 (Operand.tmp 6))⟩,
      ⟨none, some 8, (Op.binOp BinOp.eql 9 (Operand.tmp 5) (Operand.tmp 7) 9)⟩,
      ⟨none, some 3, (Op.assign (Operand.tmp 8))⟩])
   (.ret))
theorem vc122 {args : List AV} {L : List (Nat × Ob)} {R : AV → List (Nat × Ob) → Prop} (ha : args.length ≤ 9) (hL : (L.map (·.1)).Nodup)
    (h : ev Go.Proofs.Tryd.prog ⟨9, L.map (·.1)⟩ ac122 (retQ Go.Proofs.Tryd.prog [(ResultVar.tmp 3)] R) ⟨argT args, hpOf L, Us.of (L.map (·.1))⟩) : ACall Go.Proofs.Tryd.prog 122 args L R :=
  acallA (by kernel_rfl) 9 [] [(ResultVar.tmp 3)] Go.Proofs.Tryd.func122 (by kernel_rfl) Go.Proofs.Tryd.ntmps122 (by kernel_rfl) ha hL (va_of_ev _ h)
theorem en122 : enters Go.Proofs.Tryd.prog 122 = true := by kernel_rfl
/-- impl.BookDo -/
def ac16 : ACode :=
  .seq (.reg [⟨none, some 2, (Op.box 25 (Operand.tmp 0))⟩,
     ⟨none, some 3, (Op.box 27 (Operand.tmp 1))⟩,
     ⟨none, some 4, (Op.alloc 25)⟩,
     ⟨none, some 5, (Op.assign (Operand.const (Value.int IntKind.i64 0)))⟩])
  (.seq (.seq (.reg [⟨none, some 8, (Op.load 25 (Operand.tmp 2))⟩,
       ⟨none, some 9, (Op.call ⟨(Callee.value (Operand.func 21)), #[(Operand.tmp 8)], #[25]⟩)⟩,
       ⟨none, some 10, (Op.unOp UnOp.not 4 (Operand.tmp 9))⟩])
    (.cond (Operand.tmp 10) (.seq (.reg [⟨none, some 11, (Op.build 25 #[])⟩,
         ⟨none, none, (Op.store 25 (Operand.tmp 4) (Operand.tmp 11))⟩,
         ⟨none, some 5, (Op.assign (Operand.const (Value.int IntKind.i64 5)))⟩])
      (.ret)) (.skip)))
   (.seq (.reg [⟨none, some 12, (Op.load 25 (Operand.tmp 2))⟩,
       ⟨none, some 13, (Op.call ⟨(Callee.value (Operand.func 58)), #[(Operand.tmp 12)], #[25]⟩)⟩,
       ⟨none, some 6, (Op.alloc 25)⟩,
       ⟨none, none, (Op.store 25 (Operand.tmp 6) (Operand.tmp 13))⟩])
    (.seq (.reg [⟨none, some 14, (Op.load 27 (Operand.tmp 3))⟩,
        ⟨none, some 15, (Op.call ⟨(Callee.value (Operand.func 59)), #[(Operand.tmp 6), (Operand.tmp 14)], #[25, 27]⟩)⟩,
        ⟨none, some 7, (Op.assign (Operand.tmp 15))⟩])
     (.seq (.reg [⟨none, some 16, (Op.load 25 (Operand.tmp 6))⟩,
         ⟨none, some 17, (Op.call ⟨(Callee.value (Operand.func 58)), #[(Operand.tmp 16)], #[25]⟩)⟩,
         ⟨none, some 18, (Op.move (Operand.tmp 7))⟩,
         ⟨none, none, (Op.store 25 (Operand.tmp 4) (Operand.tmp 17))⟩,
         ⟨none, some 5, (Op.assign (Operand.tmp 18))⟩])
      (.ret)))))
theorem vc16 {args : List AV} {L : List (Nat × Ob)} {R : AV → List (Nat × Ob) → Prop} (ha : args.length ≤ 19) (hL : (L.map (·.1)).Nodup)
    (h : ev Go.Proofs.Tryd.prog ⟨19, L.map (·.1)⟩ ac16 (retQ Go.Proofs.Tryd.prog [(ResultVar.cell 4 25), (ResultVar.tmp 5)] R) ⟨argT args, hpOf L, Us.of (L.map (·.1))⟩) : ACall Go.Proofs.Tryd.prog 16 args L R :=
  acallA (by kernel_rfl) 19 [] [(ResultVar.cell 4 25), (ResultVar.tmp 5)] Go.Proofs.Tryd.func16 (by kernel_rfl) Go.Proofs.Tryd.ntmps16 (by kernel_rfl) ha hL (va_of_ev _ h)
theorem en16 : enters Go.Proofs.Tryd.prog 16 = true := by kernel_rfl
/-- impl.BookGet -/
def ac19 : ACode :=
  .seq (.reg [⟨none, some 3, (Op.box 25 (Operand.tmp 0))⟩,
     ⟨none, some 6, (Op.assign (Operand.const (Value.string ⟨#[]⟩)))⟩,
     ⟨none, some 7, (Op.assign (Operand.const (Value.int IntKind.i64 0)))⟩])
  (.seq (.seq (.reg [⟨none, some 10, (Op.load 25 (Operand.tmp 3))⟩,
       ⟨none, some 11, (Op.call ⟨(Callee.value (Operand.func 21)), #[(Operand.tmp 10)], #[25]⟩)⟩,
       ⟨none, some 12, (Op.unOp UnOp.not 4 (Operand.tmp 11))⟩,
       ⟨none, some 13, (Op.move (Operand.tmp 12))⟩,
       ⟨some (13, false), some 14, (Op.move (Operand.tmp 2))⟩,
       ⟨some (13, false), some 15, (Op.call ⟨(Callee.value (Operand.func 64)), #[(Operand.tmp 14)], #[3]⟩)⟩,
       ⟨some (13, false), some 16, (Op.unOp UnOp.not 4 (Operand.tmp 15))⟩,
       ⟨none, some 17, (Op.pick (Operand.tmp 13) (Operand.const (Value.bool true)) (Operand.tmp 16))⟩])
    (.cond (Operand.tmp 17) (.seq (.reg [⟨none, some 6, (Op.assign (Operand.const (Value.string ⟨#[]⟩)))⟩,
         ⟨none, some 7, (Op.assign (Operand.const (Value.int IntKind.i64 5)))⟩])
      (.ret)) (.skip)))
   (.seq (.reg [⟨none, some 19, (Op.load 25 (Operand.tmp 3))⟩,
       ⟨none, some 20, (Op.move (Operand.tmp 1))⟩,
       ⟨none, some 21, (Op.call ⟨(Callee.value (Operand.func 65)), #[(Operand.tmp 19), (Operand.tmp 20)], #[25, 9]⟩)⟩,
       ⟨none, some 18, (Op.move (Operand.tmp 21))⟩,
       ⟨none, some 22, (Op.extract (Operand.tmp 18) 0)⟩,
       ⟨none, some 23, (Op.extract (Operand.tmp 18) 1)⟩,
       ⟨none, some 8, (Op.assign (Operand.tmp 22))⟩,
       ⟨none, some 9, (Op.assign (Operand.tmp 23))⟩])
    (.seq (.seq (.reg [⟨none, some 24, (Op.move (Operand.tmp 9))⟩,
         ⟨none, some 25, (Op.unOp UnOp.not 4 (Operand.tmp 24))⟩])
      (.cond (Operand.tmp 25) (.seq (.reg [⟨none, some 6, (Op.assign (Operand.const (Value.string ⟨#[]⟩)))⟩,
           ⟨none, some 7, (Op.assign (Operand.const (Value.int IntKind.i64 1)))⟩])
        (.ret)) (.skip)))
     (.seq (.reg [⟨none, some 26, (Op.fieldAddr 25 (Operand.tmp 3) 0)⟩,
         ⟨none, some 27, (Op.load 23 (Operand.tmp 26))⟩,
         ⟨none, some 28, (Op.move (Operand.tmp 8))⟩,
         ⟨none, some 29, (Op.move (Operand.tmp 2))⟩,
         ⟨none, some 30, (Op.indexAddr 23 (Operand.tmp 27) (Operand.tmp 28))⟩,
         ⟨none, some 31, (Op.fieldAddr 35 (Operand.tmp 30) 3)⟩,
         ⟨none, some 32, (Op.indexAddr 33 (Operand.tmp 31) (Operand.tmp 29))⟩,
         ⟨none, some 33, (Op.load 9 (Operand.tmp 32))⟩,
         ⟨none, some 6, (Op.assign (Operand.tmp 33))⟩,
         ⟨none, some 7, (Op.assign (Operand.const (Value.int IntKind.i64 0)))⟩])
      (.ret)))))
theorem vc19 {args : List AV} {L : List (Nat × Ob)} {R : AV → List (Nat × Ob) → Prop} (ha : args.length ≤ 34) (hL : (L.map (·.1)).Nodup)
    (h : ev Go.Proofs.Tryd.prog ⟨34, L.map (·.1)⟩ ac19 (retQ Go.Proofs.Tryd.prog [(ResultVar.tmp 6), (ResultVar.tmp 7)] R) ⟨argT args, hpOf L, Us.of (L.map (·.1))⟩) : ACall Go.Proofs.Tryd.prog 19 args L R :=
  acallA (by kernel_rfl) 34 [] [(ResultVar.tmp 6), (ResultVar.tmp 7)] Go.Proofs.Tryd.func19 (by kernel_rfl) Go.Proofs.Tryd.ntmps19 (by kernel_rfl) ha hL (va_of_ev _ h)
theorem en19 : enters Go.Proofs.Tryd.prog 19 = true := by kernel_rfl
/-- impl.BookSame -/
def ac20 : ACode :=
  .seq (.reg [⟨none, some 2, (Op.box 25 (Operand.tmp 0))⟩,
     ⟨none, some 3, (Op.box 25 (Operand.tmp 1))⟩,
     ⟨none, some 4, (Op.assign (Operand.const (Value.bool false)))⟩])
  (.seq (.reg [⟨none, some 5, (Op.fieldAddr 25 (Operand.tmp 2) 0)⟩,
      ⟨none, some 6, (Op.load 23 (Operand.tmp 5))⟩,
      ⟨none, some 7, (Op.fieldAddr 25 (Operand.tmp 3) 0)⟩,
      ⟨none, some 8, (Op.load 23 (Operand.tmp 7))⟩,
      ⟨none, some 9, (Op.call ⟨(Callee.value (Operand.func 66)), #[(Operand.tmp 6), (Operand.tmp 8)], #[23, 23]⟩)⟩,
      ⟨none, some 4, (Op.assign (Operand.tmp 9))⟩])
   (.ret))
theorem vc20 {args : List AV} {L : List (Nat × Ob)} {R : AV → List (Nat × Ob) → Prop} (ha : args.length ≤ 10) (hL : (L.map (·.1)).Nodup)
    (h : ev Go.Proofs.Tryd.prog ⟨10, L.map (·.1)⟩ ac20 (retQ Go.Proofs.Tryd.prog [(ResultVar.tmp 4)] R) ⟨argT args, hpOf L, Us.of (L.map (·.1))⟩) : ACall Go.Proofs.Tryd.prog 20 args L R :=
  acallA (by kernel_rfl) 10 [] [(ResultVar.tmp 4)] Go.Proofs.Tryd.func20 (by kernel_rfl) Go.Proofs.Tryd.ntmps20 (by kernel_rfl) ha hL (va_of_ev _ h)
theorem en20 : enters Go.Proofs.Tryd.prog 20 = true := by kernel_rfl
def ac66_l0 : ACode :=
  .seq (.reg [⟨none, some 14, (Op.binOp BinOp.lss 3 (Operand.tmp 13) (Operand.tmp 12) 3)⟩])
  (.seq (.cond (Operand.tmp 14) (.skip) (.exit 0))
   (.seq (.block 1 (.seq (.reg [⟨none, some 15, (Op.move (Operand.tmp 13))⟩,
         ⟨none, some 5, (Op.assign (Operand.tmp 15))⟩])
      (.seq (.draw [⟨⟨none, some 16, (Op.move (Operand.tmp 0))⟩, [], [], []⟩,
          ⟨⟨none, some 17, (Op.move (Operand.tmp 5))⟩, [], [], []⟩,
          ⟨⟨none, some 18, (Op.indexAddr 23 (Operand.tmp 16) (Operand.tmp 17))⟩, [], [], []⟩,
          ⟨⟨none, some 19, (Op.load 35 (Operand.tmp 18))⟩, [], [], []⟩,
          ⟨⟨none, some 20, (Op.move (Operand.tmp 1))⟩, [], [], []⟩,
          ⟨⟨none, some 21, (Op.move (Operand.tmp 5))⟩, [], [], []⟩,
          ⟨⟨none, some 22, (Op.indexAddr 23 (Operand.tmp 20) (Operand.tmp 21))⟩, [], [], []⟩,
          ⟨⟨none, some 23, (Op.load 35 (Operand.tmp 22))⟩, [], [], []⟩,
          ⟨⟨none, some 24, (Op.binOp BinOp.neq 35 (Operand.tmp 19) (Operand.tmp 23) 35)⟩, [], [], []⟩])
       (.cond (Operand.tmp 24) (.seq (.reg [⟨none, some 4, (Op.assign (Operand.const (Value.bool false)))⟩])
         (.ret)) (.skip)))))
    (.reg [⟨none, some 25, (Op.binOp BinOp.add 3 (Operand.tmp 13) (Operand.const (Value.int IntKind.i64 1)) 3)⟩,
       ⟨none, some 13, (Op.move (Operand.tmp 25))⟩])))
/-- slices.Equal[[]impl.BookSet,impl.BookSet] -/
def ac66 : ACode :=
  .seq (.reg [⟨none, some 4, (Op.assign (Operand.const (Value.bool false)))⟩])
  (.seq (.seq (.reg [⟨none, some 6, (Op.move (Operand.tmp 0))⟩,
       ⟨none, some 7, (Op.call ⟨(Callee.builtin Builtin.len), #[(Operand.tmp 6)], #[23]⟩)⟩,
       ⟨none, some 8, (Op.move (Operand.tmp 1))⟩,
       ⟨none, some 9, (Op.call ⟨(Callee.builtin Builtin.len), #[(Operand.tmp 8)], #[23]⟩)⟩,
       ⟨none, some 10, (Op.binOp BinOp.neq 3 (Operand.tmp 7) (Operand.tmp 9) 3)⟩])
    (.cond (Operand.tmp 10) (.seq (.reg [⟨none, some 4, (Op.assign (Operand.const (Value.bool false)))⟩])
      (.ret)) (.skip)))
   (.seq (.seq (.reg [⟨none, some 11, (Op.move (Operand.tmp 0))⟩,
        ⟨none, some 12, (Op.call ⟨(Callee.builtin Builtin.len), #[(Operand.tmp 11)], #[23]⟩)⟩,
        ⟨none, some 13, (Op.move (Operand.const (Value.int IntKind.i64 0)))⟩])
     (.block 0 (.loop ac66_l0)))
    (.seq (.reg [⟨none, some 4, (Op.assign (Operand.const (Value.bool true)))⟩])
     (.ret))))
theorem vc66 {args : List AV} {L : List (Nat × Ob)} {R : AV → List (Nat × Ob) → Prop} (ha : args.length ≤ 26) (hL : (L.map (·.1)).Nodup)
    (h : ev Go.Proofs.Tryd.prog ⟨26, L.map (·.1)⟩ ac66 (retQ Go.Proofs.Tryd.prog [(ResultVar.tmp 4)] R) ⟨argT args, hpOf L, Us.of (L.map (·.1))⟩) : ACall Go.Proofs.Tryd.prog 66 args L R :=
  acallA (by kernel_rfl) 26 [(6, [⟨0, [], [], [], [2, 3, 8]⟩, ⟨1, [], [], [], [2, 3, 8]⟩, ⟨2, [], [], [], [3, 8]⟩, ⟨3, [], [], [], [8]⟩, ⟨4, [], [], [], [6, 7, 8]⟩, ⟨5, [], [], [], [6, 7, 8]⟩, ⟨6, [], [], [], [7, 8]⟩, ⟨7, [], [], [], [8]⟩, ⟨8, [], [], [], []⟩])] [(ResultVar.tmp 4)] Go.Proofs.Tryd.func66 (by kernel_rfl) Go.Proofs.Tryd.ntmps66 (by kernel_rfl) ha hL (va_of_ev _ h)
theorem en66 : enters Go.Proofs.Tryd.prog 66 = true := by kernel_rfl
def ac133_l0 : ACode :=
  .seq (.reg [⟨none, some 9, (Op.binOp BinOp.lss 3 (Operand.tmp 8) (Operand.tmp 7) 3)⟩])
  (.seq (.cond (Operand.tmp 9) (.skip) (.exit 0))
   (.seq (.block 1 (.seq (.reg [⟨none, some 10, (Op.move (Operand.tmp 8))⟩,
         ⟨none, some 5, (Op.assign (Operand.tmp 10))⟩])
      (.seq (.reg [⟨none, some 11, (Op.move (Operand.tmp 1))⟩,
          ⟨none, some 12, (Op.move (Operand.tmp 0))⟩,
          ⟨none, some 13, (Op.move (Operand.tmp 5))⟩,
          ⟨none, some 14, (Op.indexAddr 42 (Operand.tmp 12) (Operand.tmp 13))⟩,
          ⟨none, some 15, (Op.load 9 (Operand.tmp 14))⟩,
          ⟨none, some 16, (Op.call ⟨(Callee.value (Operand.tmp 11)), #[(Operand.tmp 15)], #[9]⟩)⟩])
       (.cond (Operand.tmp 16) (.seq (.reg [⟨none, some 17, (Op.move (Operand.tmp 5))⟩,
            ⟨none, some 4, (Op.assign (Operand.tmp 17))⟩])
         (.ret)) (.skip)))))
    (.reg [⟨none, some 18, (Op.binOp BinOp.add 3 (Operand.tmp 8) (Operand.const (Value.int IntKind.i64 1)) 3)⟩,
       ⟨none, some 8, (Op.move (Operand.tmp 18))⟩])))
/-- slices.IndexFunc[[]string,string] -/
def ac133 : ACode :=
  .seq (.reg [⟨none, some 4, (Op.assign (Operand.const (Value.int IntKind.i64 0)))⟩])
  (.seq (.seq (.reg [⟨none, some 6, (Op.move (Operand.tmp 0))⟩,
       ⟨none, some 7, (Op.call ⟨(Callee.builtin Builtin.len), #[(Operand.tmp 6)], #[42]⟩)⟩,
       ⟨none, some 8, (Op.move (Operand.const (Value.int IntKind.i64 0)))⟩])
    (.block 0 (.loop ac133_l0)))
   (.seq (.reg [⟨none, some 4, (Op.assign (Operand.const (Value.int IntKind.i64 (-1))))⟩])
    (.ret)))
theorem vc133 {args : List AV} {L : List (Nat × Ob)} {R : AV → List (Nat × Ob) → Prop} (ha : args.length ≤ 19) (hL : (L.map (·.1)).Nodup)
    (h : ev Go.Proofs.Tryd.prog ⟨19, L.map (·.1)⟩ ac133 (retQ Go.Proofs.Tryd.prog [(ResultVar.tmp 4)] R) ⟨argT args, hpOf L, Us.of (L.map (·.1))⟩) : ACall Go.Proofs.Tryd.prog 133 args L R :=
  acallA (by kernel_rfl) 19 [] [(ResultVar.tmp 4)] Go.Proofs.Tryd.func133 (by kernel_rfl) Go.Proofs.Tryd.ntmps133 (by kernel_rfl) ha hL (va_of_ev _ h)
theorem en133 : enters Go.Proofs.Tryd.prog 133 = true := by kernel_rfl
end Go.Av.F
end
