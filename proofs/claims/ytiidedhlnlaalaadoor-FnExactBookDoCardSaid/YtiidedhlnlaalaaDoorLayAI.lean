/- Lemmas for the proof, no statement of the seat; no conditions. -/
import Derived.Test.YtiidedhlnlaalaaDoorLayAH
import Derived.Test.YtiidedhlnlaalaaDoorProg
section
namespace Go.Av.F
open Go Go.Av
set_option maxRecDepth 100000
set_option linter.constructorNameAsVariable false
def ac131 : ACode :=
  .seq (.reg [⟨none, some 4, (Op.assign (Operand.const (Value.int IntKind.i64 0)))⟩])
  (.seq (.reg [⟨none, some 5, (Op.move (Operand.tmp 0))⟩,
      ⟨none, some 6, (Op.move (Operand.tmp 1))⟩,
      ⟨none, some 7, (Op.call ⟨(Callee.value (Operand.func 178)), #[(Operand.tmp 5), (Operand.tmp 6)], #[9, 9]⟩)⟩,
      ⟨none, some 4, (Op.assign (Operand.tmp 7))⟩])
   (.ret))
theorem vc131 {args : List AV} {L : List (Nat × Ob)} {R : AV → List (Nat × Ob) → Prop} (ha : args.length ≤ 8) (hL : (L.map (·.1)).Nodup)
    (h : ev Go.Proofs.Tryd.prog ⟨8, L.map (·.1)⟩ ac131 (retQ Go.Proofs.Tryd.prog [(ResultVar.tmp 4)] R) ⟨argT args, hpOf L, Us.of (L.map (·.1))⟩) : ACall Go.Proofs.Tryd.prog 131 args L R :=
  acallA (by kernel_rfl) 8 [] [(ResultVar.tmp 4)] Go.Proofs.Tryd.func131 (by kernel_rfl) Go.Proofs.Tryd.ntmps131 (by kernel_rfl) ha hL (va_of_ev _ h)
theorem en131 : enters Go.Proofs.Tryd.prog 131 = true := by kernel_rfl
def ac130 : ACode :=
  .seq (.reg [⟨none, some 2, (Op.box 35 (Operand.tmp 0))⟩,
     ⟨none, some 4, (Op.assign (Operand.const (Value.int IntKind.i64 0)))⟩])
  (.seq (.reg [⟨none, some 5, (Op.fieldAddr 35 (Operand.tmp 2) 0)⟩,
      ⟨none, some 6, (Op.load 9 (Operand.tmp 5))⟩,
      ⟨none, some 7, (Op.move (Operand.tmp 1))⟩,
      ⟨none, some 8, (Op.call ⟨(Callee.value (Operand.func 131)), #[(Operand.tmp 6), (Operand.tmp 7)], #[9, 9]⟩)⟩,
      ⟨none, some 4, (Op.assign (Operand.tmp 8))⟩])
   (.ret))
theorem vc130 {args : List AV} {L : List (Nat × Ob)} {R : AV → List (Nat × Ob) → Prop} (ha : args.length ≤ 9) (hL : (L.map (·.1)).Nodup)
    (h : ev Go.Proofs.Tryd.prog ⟨9, L.map (·.1)⟩ ac130 (retQ Go.Proofs.Tryd.prog [(ResultVar.tmp 4)] R) ⟨argT args, hpOf L, Us.of (L.map (·.1))⟩) : ACall Go.Proofs.Tryd.prog 130 args L R :=
  acallA (by kernel_rfl) 9 [] [(ResultVar.tmp 4)] Go.Proofs.Tryd.func130 (by kernel_rfl) Go.Proofs.Tryd.ntmps130 (by kernel_rfl) ha hL (va_of_ev _ h)
theorem en130 : enters Go.Proofs.Tryd.prog 130 = true := by kernel_rfl
def ac129_l0 : ACode :=
  .seq (.seq (.reg [⟨none, some 15, (Op.move (Operand.tmp 9))⟩,
      ⟨none, some 16, (Op.move (Operand.tmp 10))⟩,
      ⟨none, some 17, (Op.binOp BinOp.lss 3 (Operand.tmp 15) (Operand.tmp 16) 3)⟩])
   (.cond (Operand.tmp 17) (.skip) (.exit 0)))
  (.block 1 (.seq (.reg [⟨none, some 18, (Op.move (Operand.tmp 9))⟩,
       ⟨none, some 19, (Op.move (Operand.tmp 10))⟩,
       ⟨none, some 20, (Op.binOp BinOp.add 3 (Operand.tmp 18) (Operand.tmp 19) 3)⟩,
       ⟨none, some 21, (Op.convert 3 205 (Operand.tmp 20))⟩,
       ⟨none, some 22, (Op.binOp BinOp.shr 205 (Operand.tmp 21) (Operand.const (Value.int IntKind.u64 1)) 205)⟩,
       ⟨none, some 23, (Op.convert 205 3 (Operand.tmp 22))⟩,
       ⟨none, some 11, (Op.assign (Operand.tmp 23))⟩])
    (.seq (.reg [⟨none, some 24, (Op.move (Operand.tmp 2))⟩,
        ⟨none, some 25, (Op.move (Operand.tmp 0))⟩,
        ⟨none, some 26, (Op.move (Operand.tmp 11))⟩,
        ⟨none, some 27, (Op.indexAddr 23 (Operand.tmp 25) (Operand.tmp 26))⟩,
        ⟨none, some 28, (Op.load 35 (Operand.tmp 27))⟩,
        ⟨none, some 29, (Op.move (Operand.tmp 1))⟩,
        ⟨none, some 30, (Op.call ⟨(Callee.value (Operand.tmp 24)), #[(Operand.tmp 28), (Operand.tmp 29)], #[35, 9]⟩)⟩,
        ⟨none, some 31, (Op.binOp BinOp.lss 3 (Operand.tmp 30) (Operand.const (Value.int IntKind.i64 0)) 3)⟩])
     (.cond (Operand.tmp 31) (.reg [⟨none, some 32, (Op.move (Operand.tmp 11))⟩,
         ⟨none, some 33, (Op.binOp BinOp.add 3 (Operand.tmp 32) (Operand.const (Value.int IntKind.i64 1)) 3)⟩,
         ⟨none, some 9, (Op.assign (Operand.tmp 33))⟩]) (.reg [⟨none, some 34, (Op.move (Operand.tmp 11))⟩,
         ⟨none, some 10, (Op.assign (Operand.tmp 34))⟩])))))
def ac129 : ACode :=
  .seq (.reg [⟨none, some 6, (Op.assign (Operand.const (Value.int IntKind.i64 0)))⟩,
     ⟨none, some 7, (Op.assign (Operand.const (Value.bool false)))⟩])
  (.seq (.reg [⟨none, some 12, (Op.move (Operand.tmp 0))⟩,
      ⟨none, some 13, (Op.call ⟨(Callee.builtin Builtin.len), #[(Operand.tmp 12)], #[23]⟩)⟩,
      ⟨none, some 8, (Op.assign (Operand.tmp 13))⟩])
   (.seq (.reg [⟨none, some 14, (Op.move (Operand.tmp 8))⟩,
       ⟨none, some 9, (Op.assign (Operand.const (Value.int IntKind.i64 0)))⟩,
       ⟨none, some 10, (Op.assign (Operand.tmp 14))⟩])
    (.seq (.block 0 (.loop ac129_l0))
     (.seq (.reg [⟨none, some 35, (Op.move (Operand.tmp 9))⟩,
         ⟨none, some 36, (Op.move (Operand.tmp 9))⟩,
         ⟨none, some 37, (Op.move (Operand.tmp 8))⟩,
         ⟨none, some 38, (Op.binOp BinOp.lss 3 (Operand.tmp 36) (Operand.tmp 37) 3)⟩,
         ⟨none, some 39, (Op.move (Operand.tmp 38))⟩,
         ⟨some (39, true), some 40, (Op.move (Operand.tmp 2))⟩,
         ⟨some (39, true), some 41, (Op.move (Operand.tmp 0))⟩,
         ⟨some (39, true), some 42, (Op.move (Operand.tmp 9))⟩,
         ⟨some (39, true), some 43, (Op.indexAddr 23 (Operand.tmp 41) (Operand.tmp 42))⟩,
         ⟨some (39, true), some 44, (Op.load 35 (Operand.tmp 43))⟩,
         ⟨some (39, true), some 45, (Op.move (Operand.tmp 1))⟩,
         ⟨some (39, true), some 46, (Op.call ⟨(Callee.value (Operand.tmp 40)), #[(Operand.tmp 44), (Operand.tmp 45)], #[35, 9]⟩)⟩,
         ⟨some (39, true), some 47, (Op.binOp BinOp.eql 3 (Operand.tmp 46) (Operand.const (Value.int IntKind.i64 0)) 3)⟩,
         ⟨none, some 48, (Op.pick (Operand.tmp 39) (Operand.tmp 47) (Operand.const (Value.bool false)))⟩,
         ⟨none, some 6, (Op.assign (Operand.tmp 35))⟩,
         ⟨none, some 7, (Op.assign (Operand.tmp 48))⟩])
      (.ret)))))
theorem vc129 {args : List AV} {L : List (Nat × Ob)} {R : AV → List (Nat × Ob) → Prop} (ha : args.length ≤ 49) (hL : (L.map (·.1)).Nodup)
    (h : ev Go.Proofs.Tryd.prog ⟨49, L.map (·.1)⟩ ac129 (retQ Go.Proofs.Tryd.prog [(ResultVar.tmp 6), (ResultVar.tmp 7)] R) ⟨argT args, hpOf L, Us.of (L.map (·.1))⟩) : ACall Go.Proofs.Tryd.prog 129 args L R :=
  acallA (by kernel_rfl) 49 [] [(ResultVar.tmp 6), (ResultVar.tmp 7)] Go.Proofs.Tryd.func129 (by kernel_rfl) Go.Proofs.Tryd.ntmps129 (by kernel_rfl) ha hL (va_of_ev _ h)
theorem en129 : enters Go.Proofs.Tryd.prog 129 = true := by kernel_rfl
def ac65 : ACode :=
  .seq (.reg [⟨none, some 2, (Op.box 25 (Operand.tmp 0))⟩,
     ⟨none, some 4, (Op.assign (Operand.const (Value.int IntKind.i64 0)))⟩,
     ⟨none, some 5, (Op.assign (Operand.const (Value.bool false)))⟩])
  (.seq (.reg [⟨none, some 6, (Op.fieldAddr 25 (Operand.tmp 2) 0)⟩,
      ⟨none, some 7, (Op.load 23 (Operand.tmp 6))⟩,
      ⟨none, some 8, (Op.move (Operand.tmp 1))⟩,
      ⟨none, some 9, (Op.call ⟨(Callee.value (Operand.func 129)), #[(Operand.tmp 7), (Operand.tmp 8), (Operand.func 130)], #[23, 9, 169]⟩)⟩,
      ⟨none, some 10, (Op.extract (Operand.tmp 9) 0)⟩,
      ⟨none, some 11, (Op.extract (Operand.tmp 9) 1)⟩,
      ⟨none, some 4, (Op.assign (Operand.tmp 10))⟩,
      ⟨none, some 5, (Op.assign (Operand.tmp 11))⟩])
   (.ret))
theorem vc65 {args : List AV} {L : List (Nat × Ob)} {R : AV → List (Nat × Ob) → Prop} (ha : args.length ≤ 12) (hL : (L.map (·.1)).Nodup)
    (h : ev Go.Proofs.Tryd.prog ⟨12, L.map (·.1)⟩ ac65 (retQ Go.Proofs.Tryd.prog [(ResultVar.tmp 4), (ResultVar.tmp 5)] R) ⟨argT args, hpOf L, Us.of (L.map (·.1))⟩) : ACall Go.Proofs.Tryd.prog 65 args L R :=
  acallA (by kernel_rfl) 12 [] [(ResultVar.tmp 4), (ResultVar.tmp 5)] Go.Proofs.Tryd.func65 (by kernel_rfl) Go.Proofs.Tryd.ntmps65 (by kernel_rfl) ha hL (va_of_ev _ h)
theorem en65 : enters Go.Proofs.Tryd.prog 65 = true := by kernel_rfl
def ac76 : ACode :=
  .seq (.reg [⟨none, some 6, (Op.assign (Operand.const (Value.bool false)))⟩])
  (.seq (.reg [⟨none, some 7, (Op.move (Operand.tmp 1))⟩,
      ⟨none, some 8, (Op.move (Operand.tmp 0))⟩,
      ⟨none, some 9, (Op.binOp BinOp.leq 3 (Operand.tmp 7) (Operand.tmp 8) 3)⟩,
      ⟨none, some 10, (Op.move (Operand.tmp 9))⟩,
      ⟨some (10, true), some 11, (Op.move (Operand.tmp 0))⟩,
      ⟨some (10, true), some 12, (Op.move (Operand.tmp 2))⟩,
      ⟨some (10, true), some 13, (Op.binOp BinOp.leq 3 (Operand.tmp 11) (Operand.tmp 12) 3)⟩,
      ⟨none, some 14, (Op.pick (Operand.tmp 10) (Operand.tmp 13) (Operand.const (Value.bool false)))⟩,
      ⟨none, some 6, (Op.assign (Operand.tmp 14))⟩])
   (.ret))
theorem vc76 {args : List AV} {L : List (Nat × Ob)} {R : AV → List (Nat × Ob) → Prop} (ha : args.length ≤ 15) (hL : (L.map (·.1)).Nodup)
    (h : ev Go.Proofs.Tryd.prog ⟨15, L.map (·.1)⟩ ac76 (retQ Go.Proofs.Tryd.prog [(ResultVar.tmp 6)] R) ⟨argT args, hpOf L, Us.of (L.map (·.1))⟩) : ACall Go.Proofs.Tryd.prog 76 args L R :=
  acallA (by kernel_rfl) 15 [] [(ResultVar.tmp 6)] Go.Proofs.Tryd.func76 (by kernel_rfl) Go.Proofs.Tryd.ntmps76 (by kernel_rfl) ha hL (va_of_ev _ h)
theorem en76 : enters Go.Proofs.Tryd.prog 76 = true := by kernel_rfl
def ac64 : ACode :=
  .seq (.reg [⟨none, some 2, (Op.assign (Operand.const (Value.bool false)))⟩])
  (.seq (.reg [⟨none, some 3, (Op.move (Operand.tmp 0))⟩,
      ⟨none, some 4, (Op.call ⟨(Callee.value (Operand.func 76)), #[(Operand.tmp 3), (Operand.const (Value.int IntKind.i64 0)), (Operand.const (Value.int IntKind.i64 7))], #[3, 3, 3]⟩)⟩,
      ⟨none, some 2, (Op.assign (Operand.tmp 4))⟩])
   (.ret))
theorem vc64 {args : List AV} {L : List (Nat × Ob)} {R : AV → List (Nat × Ob) → Prop} (ha : args.length ≤ 5) (hL : (L.map (·.1)).Nodup)
    (h : ev Go.Proofs.Tryd.prog ⟨5, L.map (·.1)⟩ ac64 (retQ Go.Proofs.Tryd.prog [(ResultVar.tmp 2)] R) ⟨argT args, hpOf L, Us.of (L.map (·.1))⟩) : ACall Go.Proofs.Tryd.prog 64 args L R :=
  acallA (by kernel_rfl) 5 [] [(ResultVar.tmp 2)] Go.Proofs.Tryd.func64 (by kernel_rfl) Go.Proofs.Tryd.ntmps64 (by kernel_rfl) ha hL (va_of_ev _ h)
theorem en64 : enters Go.Proofs.Tryd.prog 64 = true := by kernel_rfl
def ac67 : ACode :=
  .seq (.reg [⟨none, some 2, (Op.assign (Operand.const (Value.bool false)))⟩])
  (.seq (.reg [⟨none, some 3, (Op.move (Operand.tmp 0))⟩,
      ⟨none, some 4, (Op.call ⟨(Callee.builtin Builtin.len), #[(Operand.tmp 3)], #[9]⟩)⟩,
      ⟨none, some 5, (Op.call ⟨(Callee.value (Operand.func 76)), #[(Operand.tmp 4), (Operand.const (Value.int IntKind.i64 1)), (Operand.const (Value.int IntKind.i64 6))], #[3, 3, 3]⟩)⟩,
      ⟨none, some 6, (Op.move (Operand.tmp 5))⟩,
      ⟨some (6, true), some 7, (Op.move (Operand.tmp 0))⟩,
      ⟨some (6, true), some 8, (Op.call ⟨(Callee.value (Operand.func 132)), #[(Operand.tmp 7), (Operand.const (Value.string ⟨#[97, 98, 99, 100, 101, 102, 103, 104, 105, 106, 107, 108, 109, 110, 111, 112, 113, 114, 115, 116, 117, 118, 119, 120, 121, 122]⟩))], #[9, 9]⟩)⟩,
      ⟨some (6, true), some 9, (Op.binOp BinOp.eql 9 (Operand.tmp 8) (Operand.const (Value.string ⟨#[]⟩)) 9)⟩,
      ⟨none, some 10, (Op.pick (Operand.tmp 6) (Operand.tmp 9) (Operand.const (Value.bool false)))⟩,
      ⟨none, some 2, (Op.assign (Operand.tmp 10))⟩])
   (.ret))
theorem vc67 {args : List AV} {L : List (Nat × Ob)} {R : AV → List (Nat × Ob) → Prop} (ha : args.length ≤ 11) (hL : (L.map (·.1)).Nodup)
    (h : ev Go.Proofs.Tryd.prog ⟨11, L.map (·.1)⟩ ac67 (retQ Go.Proofs.Tryd.prog [(ResultVar.tmp 2)] R) ⟨argT args, hpOf L, Us.of (L.map (·.1))⟩) : ACall Go.Proofs.Tryd.prog 67 args L R :=
  acallA (by kernel_rfl) 11 [] [(ResultVar.tmp 2)] Go.Proofs.Tryd.func67 (by kernel_rfl) Go.Proofs.Tryd.ntmps67 (by kernel_rfl) ha hL (va_of_ev _ h)
theorem en67 : enters Go.Proofs.Tryd.prog 67 = true := by kernel_rfl
def ac132 : ACode :=
  .seq (.reg [⟨none, some 4, (Op.assign (Operand.const (Value.string ⟨#[]⟩)))⟩])
  (.seq (.seq (.reg [⟨none, some 7, (Op.move (Operand.tmp 0))⟩,
       ⟨none, some 8, (Op.binOp BinOp.eql 9 (Operand.tmp 7) (Operand.const (Value.string ⟨#[]⟩)) 9)⟩,
       ⟨none, some 9, (Op.move (Operand.tmp 8))⟩,
       ⟨some (9, false), some 10, (Op.move (Operand.tmp 1))⟩,
       ⟨some (9, false), some 11, (Op.binOp BinOp.eql 9 (Operand.tmp 10) (Operand.const (Value.string ⟨#[]⟩)) 9)⟩,
       ⟨none, some 12, (Op.pick (Operand.tmp 9) (Operand.const (Value.bool true)) (Operand.tmp 11))⟩])
    (.cond (Operand.tmp 12) (.seq (.reg [⟨none, some 13, (Op.move (Operand.tmp 0))⟩,
         ⟨none, some 4, (Op.assign (Operand.tmp 13))⟩])
      (.ret)) (.skip)))
   (.seq (.seq (.reg [⟨none, some 14, (Op.move (Operand.tmp 1))⟩,
        ⟨none, some 15, (Op.call ⟨(Callee.builtin Builtin.len), #[(Operand.tmp 14)], #[9]⟩)⟩,
        ⟨none, some 16, (Op.binOp BinOp.eql 3 (Operand.tmp 15) (Operand.const (Value.int IntKind.i64 1)) 3)⟩,
        ⟨none, some 17, (Op.move (Operand.tmp 16))⟩,
        ⟨some (17, true), some 18, (Op.move (Operand.tmp 1))⟩,
        ⟨some (17, true), some 19, (Op.index 9 (Operand.tmp 18) (Operand.const (Value.int IntKind.i64 0)))⟩,
        ⟨some (17, true), some 20, (Op.binOp BinOp.lss 5 (Operand.tmp 19) (Operand.const (Value.int IntKind.u8 128)) 5)⟩,
        ⟨none, some 21, (Op.pick (Operand.tmp 17) (Operand.tmp 20) (Operand.const (Value.bool false)))⟩])
     (.cond (Operand.tmp 21) (.seq (.draw [⟨⟨none, some 22, (Op.move (Operand.tmp 0))⟩, [], [], []⟩,
          ⟨⟨none, some 23, (Op.move (Operand.tmp 1))⟩, [], [], []⟩,
          ⟨⟨none, some 24, (Op.index 9 (Operand.tmp 23) (Operand.const (Value.int IntKind.i64 0)))⟩, [], [], []⟩,
          ⟨⟨none, some 26, (Op.move (Operand.tmp 1))⟩, [], [], []⟩,
          ⟨⟨none, some 27, (Op.index 9 (Operand.tmp 26) (Operand.const (Value.int IntKind.i64 0)))⟩, [], [], []⟩,
          ⟨⟨none, some 25, (Op.call ⟨(Callee.value (Operand.func 180)), #[(Operand.tmp 22), (Operand.tmp 24)], #[9, 5]⟩)⟩, [], [], []⟩,
          ⟨⟨none, some 28, (Op.call ⟨(Callee.value (Operand.func 179)), #[(Operand.tmp 25), (Operand.tmp 27)], #[9, 5]⟩)⟩, [], [], []⟩,
          ⟨⟨none, some 4, (Op.assign (Operand.tmp 28))⟩, [], [], []⟩])
       (.ret)) (.skip)))
    (.seq (.seq (.reg [⟨none, some 30, (Op.move (Operand.tmp 1))⟩,
         ⟨none, some 31, (Op.call ⟨(Callee.value (Operand.func 181)), #[(Operand.tmp 30)], #[9]⟩)⟩,
         ⟨none, some 29, (Op.move (Operand.tmp 31))⟩,
         ⟨none, some 32, (Op.extract (Operand.tmp 29) 0)⟩,
         ⟨none, some 33, (Op.extract (Operand.tmp 29) 1)⟩,
         ⟨none, some 5, (Op.alloc 208)⟩,
         ⟨none, none, (Op.store 208 (Operand.tmp 5) (Operand.tmp 32))⟩,
         ⟨none, some 6, (Op.assign (Operand.tmp 33))⟩])
      (.seq (.reg [⟨none, some 34, (Op.move (Operand.tmp 6))⟩])
       (.cond (Operand.tmp 34) (.seq (.reg [⟨none, some 35, (Op.move (Operand.tmp 0))⟩,
            ⟨none, some 36, (Op.call ⟨(Callee.value (Operand.func 183)), #[(Operand.tmp 35), (Operand.tmp 5)], #[9, 212]⟩)⟩,
            ⟨none, some 37, (Op.call ⟨(Callee.value (Operand.func 182)), #[(Operand.tmp 36), (Operand.tmp 5)], #[9, 212]⟩)⟩,
            ⟨none, some 4, (Op.assign (Operand.tmp 37))⟩])
         (.ret)) (.skip))))
     (.seq (.reg [⟨none, some 38, (Op.move (Operand.tmp 0))⟩,
         ⟨none, some 39, (Op.move (Operand.tmp 1))⟩,
         ⟨none, some 40, (Op.call ⟨(Callee.value (Operand.func 185)), #[(Operand.tmp 38), (Operand.tmp 39)], #[9, 9]⟩)⟩,
         ⟨none, some 41, (Op.move (Operand.tmp 1))⟩,
         ⟨none, some 42, (Op.call ⟨(Callee.value (Operand.func 184)), #[(Operand.tmp 40), (Operand.tmp 41)], #[9, 9]⟩)⟩,
         ⟨none, some 4, (Op.assign (Operand.tmp 42))⟩])
      (.ret)))))
theorem vc132 {args : List AV} {L : List (Nat × Ob)} {R : AV → List (Nat × Ob) → Prop} (ha : args.length ≤ 43) (hL : (L.map (·.1)).Nodup)
    (h : ev Go.Proofs.Tryd.prog ⟨43, L.map (·.1)⟩ ac132 (retQ Go.Proofs.Tryd.prog [(ResultVar.tmp 4)] R) ⟨argT args, hpOf L, Us.of (L.map (·.1))⟩) : ACall Go.Proofs.Tryd.prog 132 args L R :=
  acallA (by kernel_rfl) 43 [(4, [⟨0, [], [], [], [3, 6, 7]⟩, ⟨1, [], [], [], [2, 3, 6, 7]⟩, ⟨2, [], [], [], [3, 6, 7]⟩, ⟨4, [], [], [], [5, 6, 7]⟩, ⟨5, [], [], [], [6, 7]⟩, ⟨3, [], [], [], [6, 7]⟩, ⟨6, [], [], [], [7]⟩, ⟨7, [], [], [], []⟩])] [(ResultVar.tmp 4)] Go.Proofs.Tryd.func132 (by kernel_rfl) Go.Proofs.Tryd.ntmps132 (by kernel_rfl) ha hL (va_of_ev _ h)
theorem en132 : enters Go.Proofs.Tryd.prog 132 = true := by kernel_rfl
def ac181_l0 : ACode :=
  .seq (.seq (.reg [⟨none, some 6, (Op.move (Operand.tmp 4))⟩,
      ⟨none, some 7, (Op.move (Operand.tmp 0))⟩,
      ⟨none, some 8, (Op.call ⟨(Callee.builtin Builtin.len), #[(Operand.tmp 7)], #[9]⟩)⟩,
      ⟨none, some 9, (Op.binOp BinOp.lss 3 (Operand.tmp 6) (Operand.tmp 8) 3)⟩])
   (.cond (Operand.tmp 9) (.skip) (.exit 0)))
  (.seq (.block 1 (.seq (.reg [⟨none, some 12, (Op.move (Operand.tmp 0))⟩,
        ⟨none, some 13, (Op.move (Operand.tmp 4))⟩,
        ⟨none, some 14, (Op.index 9 (Operand.tmp 12) (Operand.tmp 13))⟩,
        ⟨none, some 5, (Op.assign (Operand.tmp 14))⟩])
     (.seq (.seq (.reg [⟨none, some 15, (Op.move (Operand.tmp 5))⟩,
          ⟨none, some 16, (Op.binOp BinOp.geq 5 (Operand.tmp 15) (Operand.const (Value.int IntKind.u8 128)) 5)⟩])
       (.cond (Operand.tmp 16) (.seq (.reg [⟨none, some 17, (Op.load 208 (Operand.tmp 2))⟩,
            ⟨none, none, (Op.store 208 (Operand.tmp 2) (Operand.tmp 17))⟩,
            ⟨none, some 3, (Op.assign (Operand.const (Value.bool false)))⟩])
         (.ret)) (.skip)))
      (.reg [⟨none, some 18, (Op.move (Operand.tmp 5))⟩,
         ⟨none, some 19, (Op.indexAddr 208 (Operand.tmp 2) (Operand.tmp 18))⟩,
         ⟨none, none, (Op.store 4 (Operand.tmp 19) (Operand.const (Value.bool true)))⟩]))))
   (.reg [⟨none, some 10, (Op.move (Operand.tmp 4))⟩,
      ⟨none, some 11, (Op.binOp BinOp.add 3 (Operand.tmp 10) (Operand.const (Value.int IntKind.i64 1)) 3)⟩,
      ⟨none, some 4, (Op.assign (Operand.tmp 11))⟩]))
def ac181 : ACode :=
  .seq (.reg [⟨none, some 2, (Op.alloc 208)⟩,
     ⟨none, some 3, (Op.assign (Operand.const (Value.bool false)))⟩])
  (.seq (.seq (.reg [⟨none, some 4, (Op.assign (Operand.const (Value.int IntKind.i64 0)))⟩])
    (.block 0 (.loop ac181_l0)))
   (.seq (.reg [⟨none, some 20, (Op.load 208 (Operand.tmp 2))⟩,
       ⟨none, none, (Op.store 208 (Operand.tmp 2) (Operand.tmp 20))⟩,
       ⟨none, some 3, (Op.assign (Operand.const (Value.bool true)))⟩])
    (.ret)))
theorem vc181 {args : List AV} {L : List (Nat × Ob)} {R : AV → List (Nat × Ob) → Prop} (ha : args.length ≤ 21) (hL : (L.map (·.1)).Nodup)
    (h : ev Go.Proofs.Tryd.prog ⟨21, L.map (·.1)⟩ ac181 (retQ Go.Proofs.Tryd.prog [(ResultVar.cell 2 208), (ResultVar.tmp 3)] R) ⟨argT args, hpOf L, Us.of (L.map (·.1))⟩) : ACall Go.Proofs.Tryd.prog 181 args L R :=
  acallA (by kernel_rfl) 21 [] [(ResultVar.cell 2 208), (ResultVar.tmp 3)] Go.Proofs.Tryd.func181 (by kernel_rfl) Go.Proofs.Tryd.ntmps181 (by kernel_rfl) ha hL (va_of_ev _ h)
theorem en181 : enters Go.Proofs.Tryd.prog 181 = true := by kernel_rfl
def ac182_l0 : ACode :=
  .seq (.seq (.reg [⟨none, some 5, (Op.move (Operand.tmp 0))⟩,
      ⟨none, some 6, (Op.call ⟨(Callee.builtin Builtin.len), #[(Operand.tmp 5)], #[9]⟩)⟩,
      ⟨none, some 7, (Op.binOp BinOp.gtr 3 (Operand.tmp 6) (Operand.const (Value.int IntKind.i64 0)) 3)⟩])
   (.cond (Operand.tmp 7) (.skip) (.exit 0)))
  (.block 1 (.seq (.seq (.reg [⟨none, some 8, (Op.move (Operand.tmp 1))⟩,
        ⟨none, some 9, (Op.move (Operand.tmp 0))⟩,
        ⟨none, some 10, (Op.index 9 (Operand.tmp 9) (Operand.const (Value.int IntKind.i64 0)))⟩,
        ⟨none, some 11, (Op.call ⟨(Callee.value (Operand.func 216)), #[(Operand.tmp 8), (Operand.tmp 10)], #[212, 5]⟩)⟩,
        ⟨none, some 12, (Op.unOp UnOp.not 4 (Operand.tmp 11))⟩])
     (.cond (Operand.tmp 12) (.exit 0) (.skip)))
    (.reg [⟨none, some 13, (Op.move (Operand.tmp 0))⟩,
       ⟨none, some 14, (Op.slice 9 (Operand.tmp 13) (some (Operand.const (Value.int IntKind.i64 1))) none none)⟩,
       ⟨none, some 0, (Op.assign (Operand.tmp 14))⟩])))
def ac182 : ACode :=
  .seq (.reg [⟨none, some 4, (Op.assign (Operand.const (Value.string ⟨#[]⟩)))⟩])
  (.seq (.block 0 (.loop ac182_l0))
   (.seq (.reg [⟨none, some 15, (Op.move (Operand.tmp 0))⟩,
       ⟨none, some 4, (Op.assign (Operand.tmp 15))⟩])
    (.ret)))
theorem vc182 {args : List AV} {L : List (Nat × Ob)} {R : AV → List (Nat × Ob) → Prop} (ha : args.length ≤ 16) (hL : (L.map (·.1)).Nodup)
    (h : ev Go.Proofs.Tryd.prog ⟨16, L.map (·.1)⟩ ac182 (retQ Go.Proofs.Tryd.prog [(ResultVar.tmp 4)] R) ⟨argT args, hpOf L, Us.of (L.map (·.1))⟩) : ACall Go.Proofs.Tryd.prog 182 args L R :=
  acallA (by kernel_rfl) 16 [] [(ResultVar.tmp 4)] Go.Proofs.Tryd.func182 (by kernel_rfl) Go.Proofs.Tryd.ntmps182 (by kernel_rfl) ha hL (va_of_ev _ h)
theorem en182 : enters Go.Proofs.Tryd.prog 182 = true := by kernel_rfl
def ac183_l0 : ACode :=
  .seq (.seq (.reg [⟨none, some 5, (Op.move (Operand.tmp 0))⟩,
      ⟨none, some 6, (Op.call ⟨(Callee.builtin Builtin.len), #[(Operand.tmp 5)], #[9]⟩)⟩,
      ⟨none, some 7, (Op.binOp BinOp.gtr 3 (Operand.tmp 6) (Operand.const (Value.int IntKind.i64 0)) 3)⟩])
   (.cond (Operand.tmp 7) (.skip) (.exit 0)))
  (.block 1 (.seq (.seq (.reg [⟨none, some 8, (Op.move (Operand.tmp 1))⟩,
        ⟨none, some 9, (Op.move (Operand.tmp 0))⟩,
        ⟨none, some 10, (Op.move (Operand.tmp 0))⟩,
        ⟨none, some 11, (Op.call ⟨(Callee.builtin Builtin.len), #[(Operand.tmp 10)], #[9]⟩)⟩,
        ⟨none, some 12, (Op.binOp BinOp.sub 3 (Operand.tmp 11) (Operand.const (Value.int IntKind.i64 1)) 3)⟩,
        ⟨none, some 13, (Op.index 9 (Operand.tmp 9) (Operand.tmp 12))⟩,
        ⟨none, some 14, (Op.call ⟨(Callee.value (Operand.func 216)), #[(Operand.tmp 8), (Operand.tmp 13)], #[212, 5]⟩)⟩,
        ⟨none, some 15, (Op.unOp UnOp.not 4 (Operand.tmp 14))⟩])
     (.cond (Operand.tmp 15) (.exit 0) (.skip)))
    (.reg [⟨none, some 16, (Op.move (Operand.tmp 0))⟩,
       ⟨none, some 17, (Op.move (Operand.tmp 0))⟩,
       ⟨none, some 18, (Op.call ⟨(Callee.builtin Builtin.len), #[(Operand.tmp 17)], #[9]⟩)⟩,
       ⟨none, some 19, (Op.binOp BinOp.sub 3 (Operand.tmp 18) (Operand.const (Value.int IntKind.i64 1)) 3)⟩,
       ⟨none, some 20, (Op.slice 9 (Operand.tmp 16) none (some (Operand.tmp 19)) none)⟩,
       ⟨none, some 0, (Op.assign (Operand.tmp 20))⟩])))
def ac183 : ACode :=
  .seq (.reg [⟨none, some 4, (Op.assign (Operand.const (Value.string ⟨#[]⟩)))⟩])
  (.seq (.block 0 (.loop ac183_l0))
   (.seq (.reg [⟨none, some 21, (Op.move (Operand.tmp 0))⟩,
       ⟨none, some 4, (Op.assign (Operand.tmp 21))⟩])
    (.ret)))
theorem vc183 {args : List AV} {L : List (Nat × Ob)} {R : AV → List (Nat × Ob) → Prop} (ha : args.length ≤ 22) (hL : (L.map (·.1)).Nodup)
    (h : ev Go.Proofs.Tryd.prog ⟨22, L.map (·.1)⟩ ac183 (retQ Go.Proofs.Tryd.prog [(ResultVar.tmp 4)] R) ⟨argT args, hpOf L, Us.of (L.map (·.1))⟩) : ACall Go.Proofs.Tryd.prog 183 args L R :=
  acallA (by kernel_rfl) 22 [] [(ResultVar.tmp 4)] Go.Proofs.Tryd.func183 (by kernel_rfl) Go.Proofs.Tryd.ntmps183 (by kernel_rfl) ha hL (va_of_ev _ h)
theorem en183 : enters Go.Proofs.Tryd.prog 183 = true := by kernel_rfl
def ac216 : ACode :=
  .seq (.reg [⟨none, some 4, (Op.assign (Operand.const (Value.bool false)))⟩])
  (.seq (.reg [⟨none, some 5, (Op.move (Operand.tmp 0))⟩,
      ⟨none, some 6, (Op.move (Operand.tmp 1))⟩,
      ⟨none, some 7, (Op.nilCheck (Operand.tmp 5))⟩,
      ⟨none, some 8, (Op.indexAddr 208 (Operand.tmp 7) (Operand.tmp 6))⟩,
      ⟨none, some 9, (Op.load 4 (Operand.tmp 8))⟩,
      ⟨none, some 4, (Op.assign (Operand.tmp 9))⟩])
   (.ret))
theorem vc216 {args : List AV} {L : List (Nat × Ob)} {R : AV → List (Nat × Ob) → Prop} (ha : args.length ≤ 10) (hL : (L.map (·.1)).Nodup)
    (h : ev Go.Proofs.Tryd.prog ⟨10, L.map (·.1)⟩ ac216 (retQ Go.Proofs.Tryd.prog [(ResultVar.tmp 4)] R) ⟨argT args, hpOf L, Us.of (L.map (·.1))⟩) : ACall Go.Proofs.Tryd.prog 216 args L R :=
  acallA (by kernel_rfl) 10 [] [(ResultVar.tmp 4)] Go.Proofs.Tryd.func216 (by kernel_rfl) Go.Proofs.Tryd.ntmps216 (by kernel_rfl) ha hL (va_of_ev _ h)
theorem en216 : enters Go.Proofs.Tryd.prog 216 = true := by kernel_rfl
def ac72_l0 : ACode :=
  .seq (.reg [⟨none, some 10, (Op.binOp BinOp.lss 3 (Operand.tmp 9) (Operand.tmp 8) 3)⟩])
  (.seq (.cond (Operand.tmp 10) (.skip) (.exit 0))
   (.seq (.block 1 (.seq (.seq (.reg [⟨none, some 11, (Op.fieldAddr 35 (Operand.tmp 3) 2)⟩,
          ⟨none, some 12, (Op.load 9 (Operand.tmp 11))⟩,
          ⟨none, some 13, (Op.binOp BinOp.eql 9 (Operand.tmp 12) (Operand.const (Value.string ⟨#[]⟩)) 9)⟩])
       (.cond (Operand.tmp 13) (.seq (.reg [⟨none, some 14, (Op.fieldAddr 35 (Operand.tmp 3) 1)⟩,
            ⟨none, some 15, (Op.load 3 (Operand.tmp 14))⟩,
            ⟨none, some 16, (Op.binOp BinOp.eql 3 (Operand.tmp 15) (Operand.const (Value.int IntKind.i64 1)) 3)⟩,
            ⟨none, some 4, (Op.assign (Operand.tmp 16))⟩])
         (.ret)) (.skip)))
      (.seq (.reg [⟨none, some 17, (Op.fieldAddr 25 (Operand.tmp 2) 0)⟩,
          ⟨none, some 18, (Op.load 23 (Operand.tmp 17))⟩,
          ⟨none, some 19, (Op.makeFunc (Fn.func 135) #[] #[(Operand.tmp 3)])⟩,
          ⟨none, some 20, (Op.call ⟨(Callee.value (Operand.func 134)), #[(Operand.tmp 18), (Operand.tmp 19)], #[23, 103]⟩)⟩,
          ⟨none, some 5, (Op.assign (Operand.tmp 20))⟩])
       (.seq (.seq (.draw [⟨⟨none, some 21, (Op.move (Operand.tmp 5))⟩, [], [], []⟩,
            ⟨⟨none, some 22, (Op.binOp BinOp.lss 3 (Operand.tmp 21) (Operand.const (Value.int IntKind.i64 0)) 3)⟩, [], [], []⟩,
            ⟨⟨none, some 23, (Op.move (Operand.tmp 22))⟩, [], [], []⟩,
            ⟨⟨some (23, false), some 24, (Op.fieldAddr 25 (Operand.tmp 2) 0)⟩, [], [], []⟩,
            ⟨⟨some (23, false), some 25, (Op.load 23 (Operand.tmp 24))⟩, [2], [], []⟩,
            ⟨⟨some (23, false), some 26, (Op.move (Operand.tmp 5))⟩, [], [2], []⟩,
            ⟨⟨some (23, false), some 27, (Op.indexAddr 23 (Operand.tmp 25) (Operand.tmp 26))⟩, [], [], []⟩,
            ⟨⟨some (23, false), some 28, (Op.fieldAddr 35 (Operand.tmp 27) 1)⟩, [], [], []⟩,
            ⟨⟨some (23, false), some 29, (Op.load 3 (Operand.tmp 28))⟩, [], [], []⟩,
            ⟨⟨some (23, false), some 30, (Op.fieldAddr 35 (Operand.tmp 3) 1)⟩, [], [2], []⟩,
            ⟨⟨some (23, false), some 31, (Op.load 3 (Operand.tmp 30))⟩, [3], [2], []⟩,
            ⟨⟨some (23, false), some 32, (Op.binOp BinOp.eql 3 (Operand.tmp 29) (Operand.tmp 31) 3)⟩, [], [], []⟩,
            ⟨⟨none, some 33, (Op.pick (Operand.tmp 23) (Operand.const (Value.bool true)) (Operand.tmp 32))⟩, [], [], []⟩])
         (.cond (Operand.tmp 33) (.seq (.reg [⟨none, some 4, (Op.assign (Operand.const (Value.bool false)))⟩])
           (.ret)) (.skip)))
        (.reg [⟨none, some 34, (Op.fieldAddr 25 (Operand.tmp 2) 0)⟩,
           ⟨none, some 35, (Op.load 23 (Operand.tmp 34))⟩,
           ⟨none, some 36, (Op.move (Operand.tmp 5))⟩,
           ⟨none, some 37, (Op.indexAddr 23 (Operand.tmp 35) (Operand.tmp 36))⟩,
           ⟨none, some 38, (Op.load 35 (Operand.tmp 37))⟩,
           ⟨none, none, (Op.store 35 (Operand.tmp 3) (Operand.tmp 38))⟩])))))
    (.reg [⟨none, some 39, (Op.binOp BinOp.add 3 (Operand.tmp 9) (Operand.const (Value.int IntKind.i64 1)) 3)⟩,
       ⟨none, some 9, (Op.move (Operand.tmp 39))⟩])))
def ac72 : ACode :=
  .seq (.reg [⟨none, some 2, (Op.box 25 (Operand.tmp 0))⟩,
     ⟨none, some 3, (Op.box 35 (Operand.tmp 1))⟩,
     ⟨none, some 4, (Op.assign (Operand.const (Value.bool false)))⟩])
  (.seq (.seq (.reg [⟨none, some 6, (Op.fieldAddr 25 (Operand.tmp 2) 0)⟩,
       ⟨none, some 7, (Op.load 23 (Operand.tmp 6))⟩,
       ⟨none, some 8, (Op.call ⟨(Callee.builtin Builtin.len), #[(Operand.tmp 7)], #[23]⟩)⟩,
       ⟨none, some 9, (Op.move (Operand.const (Value.int IntKind.i64 0)))⟩])
    (.block 0 (.loop ac72_l0)))
   (.seq (.reg [⟨none, some 4, (Op.assign (Operand.const (Value.bool false)))⟩])
    (.ret)))
theorem vc72 {args : List AV} {L : List (Nat × Ob)} {R : AV → List (Nat × Ob) → Prop} (ha : args.length ≤ 40) (hL : (L.map (·.1)).Nodup)
    (h : ev Go.Proofs.Tryd.prog ⟨40, L.map (·.1)⟩ ac72 (retQ Go.Proofs.Tryd.prog [(ResultVar.tmp 4)] R) ⟨argT args, hpOf L, Us.of (L.map (·.1))⟩) : ACall Go.Proofs.Tryd.prog 72 args L R :=
  acallA (by kernel_rfl) 40 [(6, [⟨0, [], [], [], [1, 2, 3, 4, 5, 6, 7, 8, 9, 10, 11, 12]⟩, ⟨1, [], [], [], [2, 3, 4, 5, 6, 7, 8, 9, 10, 11, 12]⟩, ⟨2, [], [], [], [3, 4, 5, 6, 7, 8, 9, 10, 11, 12]⟩, ⟨3, [], [], [], [4, 6, 7, 8, 11, 12]⟩, ⟨4, [2], [], [], [6, 7, 8, 11, 12]⟩, ⟨5, [], [2], [], [6, 7, 8, 11, 12]⟩, ⟨6, [], [], [], [7, 8, 11, 12]⟩, ⟨7, [], [], [], [8, 11, 12]⟩, ⟨8, [], [], [], [11, 12]⟩, ⟨9, [], [2], [], [10, 11, 12]⟩, ⟨10, [3], [2], [], [11, 12]⟩, ⟨11, [], [], [], [12]⟩, ⟨12, [], [], [], []⟩])] [(ResultVar.tmp 4)] Go.Proofs.Tryd.func72 (by kernel_rfl) Go.Proofs.Tryd.ntmps72 (by kernel_rfl) ha hL (va_of_ev _ h)
theorem en72 : enters Go.Proofs.Tryd.prog 72 = true := by kernel_rfl
def ac134_l0 : ACode :=
  .seq (.reg [⟨none, some 9, (Op.binOp BinOp.lss 3 (Operand.tmp 8) (Operand.tmp 7) 3)⟩])
  (.seq (.cond (Operand.tmp 9) (.skip) (.exit 0))
   (.seq (.block 1 (.seq (.reg [⟨none, some 10, (Op.move (Operand.tmp 8))⟩,
         ⟨none, some 5, (Op.assign (Operand.tmp 10))⟩])
      (.seq (.reg [⟨none, some 11, (Op.move (Operand.tmp 1))⟩,
          ⟨none, some 12, (Op.move (Operand.tmp 0))⟩,
          ⟨none, some 13, (Op.move (Operand.tmp 5))⟩,
          ⟨none, some 14, (Op.indexAddr 23 (Operand.tmp 12) (Operand.tmp 13))⟩,
          ⟨none, some 15, (Op.load 35 (Operand.tmp 14))⟩,
          ⟨none, some 16, (Op.call ⟨(Callee.value (Operand.tmp 11)), #[(Operand.tmp 15)], #[35]⟩)⟩])
       (.cond (Operand.tmp 16) (.seq (.reg [⟨none, some 17, (Op.move (Operand.tmp 5))⟩,
            ⟨none, some 4, (Op.assign (Operand.tmp 17))⟩])
         (.ret)) (.skip)))))
    (.reg [⟨none, some 18, (Op.binOp BinOp.add 3 (Operand.tmp 8) (Operand.const (Value.int IntKind.i64 1)) 3)⟩,
       ⟨none, some 8, (Op.move (Operand.tmp 18))⟩])))
def ac134 : ACode :=
  .seq (.reg [⟨none, some 4, (Op.assign (Operand.const (Value.int IntKind.i64 0)))⟩])
  (.seq (.seq (.reg [⟨none, some 6, (Op.move (Operand.tmp 0))⟩,
       ⟨none, some 7, (Op.call ⟨(Callee.builtin Builtin.len), #[(Operand.tmp 6)], #[23]⟩)⟩,
       ⟨none, some 8, (Op.move (Operand.const (Value.int IntKind.i64 0)))⟩])
    (.block 0 (.loop ac134_l0)))
   (.seq (.reg [⟨none, some 4, (Op.assign (Operand.const (Value.int IntKind.i64 (-1))))⟩])
    (.ret)))
theorem vc134 {args : List AV} {L : List (Nat × Ob)} {R : AV → List (Nat × Ob) → Prop} (ha : args.length ≤ 19) (hL : (L.map (·.1)).Nodup)
    (h : ev Go.Proofs.Tryd.prog ⟨19, L.map (·.1)⟩ ac134 (retQ Go.Proofs.Tryd.prog [(ResultVar.tmp 4)] R) ⟨argT args, hpOf L, Us.of (L.map (·.1))⟩) : ACall Go.Proofs.Tryd.prog 134 args L R :=
  acallA (by kernel_rfl) 19 [] [(ResultVar.tmp 4)] Go.Proofs.Tryd.func134 (by kernel_rfl) Go.Proofs.Tryd.ntmps134 (by kernel_rfl) ha hL (va_of_ev _ h)
theorem en134 : enters Go.Proofs.Tryd.prog 134 = true := by kernel_rfl
def ac135 : ACode :=
  .seq (.reg [⟨none, some 2, (Op.box 35 (Operand.tmp 0))⟩,
     ⟨none, some 3, (Op.assign (Operand.const (Value.bool false)))⟩])
  (.seq (.reg [⟨none, some 4, (Op.fieldAddr 35 (Operand.tmp 2) 0)⟩,
      ⟨none, some 5, (Op.load 9 (Operand.tmp 4))⟩,
      ⟨none, some 6, (Op.fieldAddr 35 (Operand.tmp 1) 2)⟩,
      ⟨none, some 7, (Op.load 9 (Operand.tmp 6))⟩,
      ⟨none, some 8, (Op.binOp BinOp.eql 9 (Operand.tmp 5) (Operand.tmp 7) 9)⟩,
      ⟨none, some 3, (Op.assign (Operand.tmp 8))⟩])
   (.ret))
theorem vc135 {args : List AV} {L : List (Nat × Ob)} {R : AV → List (Nat × Ob) → Prop} (ha : args.length ≤ 9) (hL : (L.map (·.1)).Nodup)
    (h : ev Go.Proofs.Tryd.prog ⟨9, L.map (·.1)⟩ ac135 (retQ Go.Proofs.Tryd.prog [(ResultVar.tmp 3)] R) ⟨argT args, hpOf L, Us.of (L.map (·.1))⟩) : ACall Go.Proofs.Tryd.prog 135 args L R :=
  acallA (by kernel_rfl) 9 [] [(ResultVar.tmp 3)] Go.Proofs.Tryd.func135 (by kernel_rfl) Go.Proofs.Tryd.ntmps135 (by kernel_rfl) ha hL (va_of_ev _ h)
theorem en135 : enters Go.Proofs.Tryd.prog 135 = true := by kernel_rfl
def ac21_l0 : ACode :=
  .seq (.reg [⟨none, some 13, (Op.binOp BinOp.lss 3 (Operand.tmp 12) (Operand.tmp 11) 3)⟩])
  (.seq (.cond (Operand.tmp 13) (.skip) (.exit 0))
   (.seq (.block 1 (.seq (.reg [⟨none, some 14, (Op.move (Operand.tmp 12))⟩,
         ⟨none, some 15, (Op.indexAddr 23 (Operand.tmp 10) (Operand.tmp 12))⟩,
         ⟨none, some 16, (Op.load 35 (Operand.tmp 15))⟩,
         ⟨none, some 4, (Op.alloc 35)⟩,
         ⟨none, some 3, (Op.assign (Operand.tmp 14))⟩,
         ⟨none, none, (Op.store 35 (Operand.tmp 4) (Operand.tmp 16))⟩])
      (.seq (.draw [⟨⟨none, some 17, (Op.fieldAddr 35 (Operand.tmp 4) 0)⟩, [], [], []⟩,
          ⟨⟨none, some 18, (Op.load 9 (Operand.tmp 17))⟩, [4], [], []⟩,
          ⟨⟨none, some 19, (Op.call ⟨(Callee.value (Operand.func 67)), #[(Operand.tmp 18)], #[9]⟩)⟩, [], [], []⟩,
          ⟨⟨none, some 20, (Op.unOp UnOp.not 4 (Operand.tmp 19))⟩, [], [], []⟩,
          ⟨⟨none, some 21, (Op.move (Operand.tmp 20))⟩, [], [], []⟩,
          ⟨⟨some (21, false), some 22, (Op.move (Operand.tmp 3))⟩, [], [], []⟩,
          ⟨⟨some (21, false), some 23, (Op.binOp BinOp.gtr 3 (Operand.tmp 22) (Operand.const (Value.int IntKind.i64 0)) 3)⟩, [], [], []⟩,
          ⟨⟨some (21, false), some 24, (Op.move (Operand.tmp 23))⟩, [], [], []⟩,
          ⟨⟨some (24, true), some 25, (Op.fieldAddr 25 (Operand.tmp 1) 0)⟩, [], [], []⟩,
          ⟨⟨some (24, true), some 26, (Op.load 23 (Operand.tmp 25))⟩, [1], [], []⟩,
          ⟨⟨some (24, true), some 27, (Op.move (Operand.tmp 3))⟩, [], [1], []⟩,
          ⟨⟨some (24, true), some 28, (Op.binOp BinOp.sub 3 (Operand.tmp 27) (Operand.const (Value.int IntKind.i64 1)) 3)⟩, [], [1], []⟩,
          ⟨⟨some (24, true), some 29, (Op.indexAddr 23 (Operand.tmp 26) (Operand.tmp 28))⟩, [], [], []⟩,
          ⟨⟨some (24, true), some 30, (Op.fieldAddr 35 (Operand.tmp 29) 0)⟩, [], [], []⟩,
          ⟨⟨some (24, true), some 31, (Op.load 9 (Operand.tmp 30))⟩, [], [], []⟩,
          ⟨⟨some (24, true), some 32, (Op.fieldAddr 35 (Operand.tmp 4) 0)⟩, [], [1], []⟩,
          ⟨⟨some (24, true), some 33, (Op.load 9 (Operand.tmp 32))⟩, [4], [1], []⟩,
          ⟨⟨some (24, true), some 34, (Op.binOp BinOp.geq 9 (Operand.tmp 31) (Operand.tmp 33) 9)⟩, [], [], []⟩,
          ⟨⟨some (21, false), some 35, (Op.pick (Operand.tmp 24) (Operand.tmp 34) (Operand.const (Value.bool false)))⟩, [], [], []⟩,
          ⟨⟨none, some 36, (Op.pick (Operand.tmp 21) (Operand.const (Value.bool true)) (Operand.tmp 35))⟩, [], [], []⟩,
          ⟨⟨none, some 37, (Op.move (Operand.tmp 36))⟩, [], [], []⟩,
          ⟨⟨some (37, false), some 38, (Op.fieldAddr 35 (Operand.tmp 4) 1)⟩, [], [], []⟩,
          ⟨⟨some (37, false), some 39, (Op.load 3 (Operand.tmp 38))⟩, [4], [], []⟩,
          ⟨⟨some (37, false), some 40, (Op.binOp BinOp.neq 3 (Operand.tmp 39) (Operand.const (Value.int IntKind.i64 1)) 3)⟩, [], [], []⟩,
          ⟨⟨some (37, false), some 41, (Op.move (Operand.tmp 40))⟩, [], [], []⟩,
          ⟨⟨some (41, true), some 42, (Op.fieldAddr 35 (Operand.tmp 4) 1)⟩, [], [], []⟩,
          ⟨⟨some (41, true), some 43, (Op.load 3 (Operand.tmp 42))⟩, [4], [], []⟩,
          ⟨⟨some (41, true), some 44, (Op.binOp BinOp.neq 3 (Operand.tmp 43) (Operand.const (Value.int IntKind.i64 2)) 3)⟩, [], [], []⟩,
          ⟨⟨some (37, false), some 45, (Op.pick (Operand.tmp 41) (Operand.tmp 44) (Operand.const (Value.bool false)))⟩, [], [], []⟩,
          ⟨⟨none, some 46, (Op.pick (Operand.tmp 37) (Operand.const (Value.bool true)) (Operand.tmp 45))⟩, [], [], []⟩,
          ⟨⟨none, some 47, (Op.move (Operand.tmp 46))⟩, [], [], []⟩,
          ⟨⟨some (47, false), some 48, (Op.fieldAddr 35 (Operand.tmp 4) 3)⟩, [], [], []⟩,
          ⟨⟨some (47, false), some 49, (Op.slice 33 (Operand.tmp 48) none none none)⟩, [], [], []⟩,
          ⟨⟨some (47, false), some 50, (Op.call ⟨(Callee.value (Operand.func 68)), #[(Operand.tmp 49), (Operand.func 69)], #[42, 95]⟩)⟩, [], [], []⟩,
          ⟨⟨none, some 51, (Op.pick (Operand.tmp 47) (Operand.const (Value.bool true)) (Operand.tmp 50))⟩, [], [], []⟩])
       (.cond (Operand.tmp 51) (.seq (.reg [⟨none, some 2, (Op.assign (Operand.const (Value.bool false)))⟩])
         (.ret)) (.skip)))))
    (.reg [⟨none, some 52, (Op.binOp BinOp.add 3 (Operand.tmp 12) (Operand.const (Value.int IntKind.i64 1)) 3)⟩,
       ⟨none, some 12, (Op.move (Operand.tmp 52))⟩])))
def ac21 : ACode :=
  .seq (.reg [⟨none, some 1, (Op.box 25 (Operand.tmp 0))⟩,
     ⟨none, some 2, (Op.assign (Operand.const (Value.bool false)))⟩])
  (.seq (.seq (.reg [⟨none, some 5, (Op.fieldAddr 25 (Operand.tmp 1) 0)⟩,
       ⟨none, some 6, (Op.load 23 (Operand.tmp 5))⟩,
       ⟨none, some 7, (Op.call ⟨(Callee.builtin Builtin.len), #[(Operand.tmp 6)], #[23]⟩)⟩,
       ⟨none, some 8, (Op.binOp BinOp.gtr 3 (Operand.tmp 7) (Operand.const (Value.int IntKind.i64 6)) 3)⟩])
    (.cond (Operand.tmp 8) (.seq (.reg [⟨none, some 2, (Op.assign (Operand.const (Value.bool false)))⟩])
      (.ret)) (.skip)))
   (.seq (.seq (.reg [⟨none, some 9, (Op.fieldAddr 25 (Operand.tmp 1) 0)⟩,
        ⟨none, some 10, (Op.load 23 (Operand.tmp 9))⟩,
        ⟨none, some 11, (Op.call ⟨(Callee.builtin Builtin.len), #[(Operand.tmp 10)], #[23]⟩)⟩,
        ⟨none, some 12, (Op.move (Operand.const (Value.int IntKind.i64 0)))⟩])
     (.block 0 (.loop ac21_l0)))
    (.seq (.reg [⟨none, some 53, (Op.fieldAddr 25 (Operand.tmp 1) 0)⟩,
        ⟨none, some 54, (Op.load 23 (Operand.tmp 53))⟩,
        ⟨none, some 55, (Op.makeFunc (Fn.func 71) #[] #[(Operand.tmp 1)])⟩,
        ⟨none, some 56, (Op.call ⟨(Callee.value (Operand.func 70)), #[(Operand.tmp 54), (Operand.tmp 55)], #[23, 103]⟩)⟩,
        ⟨none, some 57, (Op.unOp UnOp.not 4 (Operand.tmp 56))⟩,
        ⟨none, some 2, (Op.assign (Operand.tmp 57))⟩])
     (.ret))))
theorem vc21 {args : List AV} {L : List (Nat × Ob)} {R : AV → List (Nat × Ob) → Prop} (ha : args.length ≤ 58) (hL : (L.map (·.1)).Nodup)
    (h : ev Go.Proofs.Tryd.prog ⟨58, L.map (·.1)⟩ ac21 (retQ Go.Proofs.Tryd.prog [(ResultVar.tmp 2)] R) ⟨argT args, hpOf L, Us.of (L.map (·.1))⟩) : ACall Go.Proofs.Tryd.prog 21 args L R :=
  acallA (by kernel_rfl) 58 [(6, [⟨0, [], [], [], [1, 2, 3, 4, 5, 6, 7, 8, 9, 10, 11, 12, 13, 14, 15, 16, 17, 18, 19, 20, 21, 22, 23, 24, 25, 26, 27, 28, 29, 30, 31, 32, 33, 34]⟩, ⟨1, [4], [], [], [2, 3, 4, 5, 6, 7, 8, 9, 10, 11, 12, 13, 14, 15, 16, 17, 18, 19, 20, 21, 22, 23, 24, 25, 26, 27, 28, 29, 30, 31, 32, 33, 34]⟩, ⟨2, [], [], [], [3, 4, 5, 6, 7, 8, 9, 10, 11, 12, 13, 14, 15, 16, 17, 18, 19, 20, 21, 22, 23, 24, 25, 26, 27, 28, 29, 30, 31, 32, 33, 34]⟩, ⟨3, [], [], [], [4, 5, 6, 7, 8, 9, 10, 11, 12, 13, 14, 15, 16, 17, 18, 19, 20, 21, 22, 23, 24, 25, 26, 27, 28, 29, 30, 31, 32, 33, 34]⟩, ⟨4, [], [], [], [5, 6, 7, 8, 9, 10, 11, 12, 13, 14, 15, 16, 17, 18, 19, 20, 21, 22, 23, 24, 25, 26, 27, 28, 29, 30, 31, 32, 33, 34]⟩, ⟨5, [], [], [], [6, 7, 8, 9, 10, 11, 12, 13, 14, 15, 16, 17, 18, 19, 20, 21, 22, 23, 24, 25, 26, 27, 28, 29, 30, 31, 32, 33, 34]⟩, ⟨6, [], [], [], [7, 8, 9, 10, 11, 12, 13, 14, 15, 16, 17, 18, 19, 20, 21, 22, 23, 24, 25, 26, 27, 28, 29, 30, 31, 32, 33, 34]⟩, ⟨7, [], [], [], [8, 9, 10, 11, 12, 13, 14, 15, 16, 17, 18, 19, 20, 21, 22, 23, 24, 25, 26, 27, 28, 29, 30, 31, 32, 33, 34]⟩, ⟨8, [], [], [], [9, 12, 13, 14, 17, 18, 19, 20, 21, 22, 23, 24, 25, 26, 27, 28, 29, 30, 31, 32, 33, 34]⟩, ⟨9, [1], [], [], [12, 13, 14, 17, 18, 19, 20, 21, 22, 23, 24, 25, 26, 27, 28, 29, 30, 31, 32, 33, 34]⟩, ⟨10, [], [1], [], [11, 12, 13, 14, 17, 18, 19, 20, 21, 22, 23, 24, 25, 26, 27, 28, 29, 30, 31, 32, 33, 34]⟩, ⟨11, [], [1], [], [12, 13, 14, 17, 18, 19, 20, 21, 22, 23, 24, 25, 26, 27, 28, 29, 30, 31, 32, 33, 34]⟩, ⟨12, [], [], [], [13, 14, 17, 18, 19, 20, 21, 22, 23, 24, 25, 26, 27, 28, 29, 30, 31, 32, 33, 34]⟩, ⟨13, [], [], [], [14, 17, 18, 19, 20, 21, 22, 23, 24, 25, 26, 27, 28, 29, 30, 31, 32, 33, 34]⟩, ⟨14, [], [], [], [17, 18, 19, 20, 21, 22, 23, 24, 25, 26, 27, 28, 29, 30, 31, 32, 33, 34]⟩, ⟨15, [], [1], [], [16, 17, 18, 19, 20, 21, 22, 23, 24, 25, 26, 27, 28, 29, 30, 31, 32, 33, 34]⟩, ⟨16, [4], [1], [], [17, 18, 19, 20, 21, 22, 23, 24, 25, 26, 27, 28, 29, 30, 31, 32, 33, 34]⟩, ⟨17, [], [], [], [18, 19, 20, 21, 22, 23, 24, 25, 26, 27, 28, 29, 30, 31, 32, 33, 34]⟩, ⟨18, [], [], [], [19, 20, 21, 22, 23, 24, 25, 26, 27, 28, 29, 30, 31, 32, 33, 34]⟩, ⟨19, [], [], [], [20, 21, 22, 23, 24, 25, 26, 27, 28, 29, 30, 31, 32, 33, 34]⟩, ⟨20, [], [], [], [21, 22, 23, 24, 25, 26, 27, 28, 29, 30, 31, 32, 33, 34]⟩, ⟨21, [], [], [], [22, 23, 24, 25, 26, 27, 28, 29, 30, 31, 32, 33, 34]⟩, ⟨22, [4], [], [], [23, 24, 25, 26, 27, 28, 29, 30, 31, 32, 33, 34]⟩, ⟨23, [], [], [], [24, 25, 26, 27, 28, 29, 30, 31, 32, 33, 34]⟩, ⟨24, [], [], [], [25, 26, 27, 28, 29, 30, 31, 32, 33, 34]⟩, ⟨25, [], [], [], [26, 27, 28, 29, 30, 31, 32, 33, 34]⟩, ⟨26, [4], [], [], [27, 28, 29, 30, 31, 32, 33, 34]⟩, ⟨27, [], [], [], [28, 29, 30, 31, 32, 33, 34]⟩, ⟨28, [], [], [], [29, 30, 31, 32, 33, 34]⟩, ⟨29, [], [], [], [30, 31, 32, 33, 34]⟩, ⟨30, [], [], [], [31, 32, 33, 34]⟩, ⟨31, [], [], [], [32, 33, 34]⟩, ⟨32, [], [], [], [33, 34]⟩, ⟨33, [], [], [], [34]⟩, ⟨34, [], [], [], []⟩])] [(ResultVar.tmp 2)] Go.Proofs.Tryd.func21 (by kernel_rfl) Go.Proofs.Tryd.ntmps21 (by kernel_rfl) ha hL (va_of_ev _ h)
theorem en21 : enters Go.Proofs.Tryd.prog 21 = true := by kernel_rfl
def ac68 : ACode :=
  .seq (.reg [⟨none, some 4, (Op.assign (Operand.const (Value.bool false)))⟩])
  (.seq (.reg [⟨none, some 5, (Op.move (Operand.tmp 0))⟩,
      ⟨none, some 6, (Op.move (Operand.tmp 1))⟩,
      ⟨none, some 7, (Op.call ⟨(Callee.value (Operand.func 133)), #[(Operand.tmp 5), (Operand.tmp 6)], #[42, 95]⟩)⟩,
      ⟨none, some 8, (Op.binOp BinOp.geq 3 (Operand.tmp 7) (Operand.const (Value.int IntKind.i64 0)) 3)⟩,
      ⟨none, some 4, (Op.assign (Operand.tmp 8))⟩])
   (.ret))
theorem vc68 {args : List AV} {L : List (Nat × Ob)} {R : AV → List (Nat × Ob) → Prop} (ha : args.length ≤ 9) (hL : (L.map (·.1)).Nodup)
    (h : ev Go.Proofs.Tryd.prog ⟨9, L.map (·.1)⟩ ac68 (retQ Go.Proofs.Tryd.prog [(ResultVar.tmp 4)] R) ⟨argT args, hpOf L, Us.of (L.map (·.1))⟩) : ACall Go.Proofs.Tryd.prog 68 args L R :=
  acallA (by kernel_rfl) 9 [] [(ResultVar.tmp 4)] Go.Proofs.Tryd.func68 (by kernel_rfl) Go.Proofs.Tryd.ntmps68 (by kernel_rfl) ha hL (va_of_ev _ h)
theorem en68 : enters Go.Proofs.Tryd.prog 68 = true := by kernel_rfl
def ac69 : ACode :=
  .seq (.reg [⟨none, some 2, (Op.assign (Operand.const (Value.bool false)))⟩])
  (.seq (.reg [⟨none, some 3, (Op.move (Operand.tmp 0))⟩,
      ⟨none, some 4, (Op.call ⟨(Callee.builtin Builtin.len), #[(Operand.tmp 3)], #[9]⟩)⟩,
      ⟨none, some 5, (Op.binOp BinOp.gtr 3 (Operand.tmp 4) (Operand.const (Value.int IntKind.i64 24)) 3)⟩,
      ⟨none, some 2, (Op.assign (Operand.tmp 5))⟩])
   (.ret))
theorem vc69 {args : List AV} {L : List (Nat × Ob)} {R : AV → List (Nat × Ob) → Prop} (ha : args.length ≤ 6) (hL : (L.map (·.1)).Nodup)
    (h : ev Go.Proofs.Tryd.prog ⟨6, L.map (·.1)⟩ ac69 (retQ Go.Proofs.Tryd.prog [(ResultVar.tmp 2)] R) ⟨argT args, hpOf L, Us.of (L.map (·.1))⟩) : ACall Go.Proofs.Tryd.prog 69 args L R :=
  acallA (by kernel_rfl) 6 [] [(ResultVar.tmp 2)] Go.Proofs.Tryd.func69 (by kernel_rfl) Go.Proofs.Tryd.ntmps69 (by kernel_rfl) ha hL (va_of_ev _ h)
theorem en69 : enters Go.Proofs.Tryd.prog 69 = true := by kernel_rfl
def ac70 : ACode :=
  .seq (.reg [⟨none, some 4, (Op.assign (Operand.const (Value.bool false)))⟩])
  (.seq (.reg [⟨none, some 5, (Op.move (Operand.tmp 0))⟩,
      ⟨none, some 6, (Op.move (Operand.tmp 1))⟩,
      ⟨none, some 7, (Op.call ⟨(Callee.value (Operand.func 134)), #[(Operand.tmp 5), (Operand.tmp 6)], #[23, 103]⟩)⟩,
      ⟨none, some 8, (Op.binOp BinOp.geq 3 (Operand.tmp 7) (Operand.const (Value.int IntKind.i64 0)) 3)⟩,
      ⟨none, some 4, (Op.assign (Operand.tmp 8))⟩])
   (.ret))
theorem vc70 {args : List AV} {L : List (Nat × Ob)} {R : AV → List (Nat × Ob) → Prop} (ha : args.length ≤ 9) (hL : (L.map (·.1)).Nodup)
    (h : ev Go.Proofs.Tryd.prog ⟨9, L.map (·.1)⟩ ac70 (retQ Go.Proofs.Tryd.prog [(ResultVar.tmp 4)] R) ⟨argT args, hpOf L, Us.of (L.map (·.1))⟩) : ACall Go.Proofs.Tryd.prog 70 args L R :=
  acallA (by kernel_rfl) 9 [] [(ResultVar.tmp 4)] Go.Proofs.Tryd.func70 (by kernel_rfl) Go.Proofs.Tryd.ntmps70 (by kernel_rfl) ha hL (va_of_ev _ h)
theorem en70 : enters Go.Proofs.Tryd.prog 70 = true := by kernel_rfl
def ac71 : ACode :=
  .seq (.reg [⟨none, some 2, (Op.box 35 (Operand.tmp 0))⟩,
     ⟨none, some 3, (Op.assign (Operand.const (Value.bool false)))⟩])
  (.seq (.reg [⟨none, some 4, (Op.load 25 (Operand.tmp 1))⟩,
      ⟨none, some 5, (Op.load 35 (Operand.tmp 2))⟩,
      ⟨none, some 6, (Op.call ⟨(Callee.value (Operand.func 72)), #[(Operand.tmp 4), (Operand.tmp 5)], #[25, 35]⟩)⟩,
      ⟨none, some 7, (Op.unOp UnOp.not 4 (Operand.tmp 6))⟩,
      ⟨none, some 3, (Op.assign (Operand.tmp 7))⟩])
   (.ret))
theorem vc71 {args : List AV} {L : List (Nat × Ob)} {R : AV → List (Nat × Ob) → Prop} (ha : args.length ≤ 8) (hL : (L.map (·.1)).Nodup)
    (h : ev Go.Proofs.Tryd.prog ⟨8, L.map (·.1)⟩ ac71 (retQ Go.Proofs.Tryd.prog [(ResultVar.tmp 3)] R) ⟨argT args, hpOf L, Us.of (L.map (·.1))⟩) : ACall Go.Proofs.Tryd.prog 71 args L R :=
  acallA (by kernel_rfl) 8 [] [(ResultVar.tmp 3)] Go.Proofs.Tryd.func71 (by kernel_rfl) Go.Proofs.Tryd.ntmps71 (by kernel_rfl) ha hL (va_of_ev _ h)
theorem en71 : enters Go.Proofs.Tryd.prog 71 = true := by kernel_rfl
def ac58 : ACode :=
  .seq (.reg [⟨none, some 1, (Op.box 25 (Operand.tmp 0))⟩,
     ⟨none, some 2, (Op.alloc 25)⟩])
  (.seq (.reg [⟨none, some 3, (Op.fieldAddr 25 (Operand.tmp 1) 0)⟩,
      ⟨none, some 4, (Op.load 23 (Operand.tmp 3))⟩,
      ⟨none, some 5, (Op.call ⟨(Callee.value (Operand.func 120)), #[(Operand.tmp 4)], #[23]⟩)⟩,
      ⟨none, some 6, (Op.build 25 #[(0, (Operand.tmp 5))])⟩,
      ⟨none, none, (Op.store 25 (Operand.tmp 2) (Operand.tmp 6))⟩])
   (.ret))
theorem vc58 {args : List AV} {L : List (Nat × Ob)} {R : AV → List (Nat × Ob) → Prop} (ha : args.length ≤ 7) (hL : (L.map (·.1)).Nodup)
    (h : ev Go.Proofs.Tryd.prog ⟨7, L.map (·.1)⟩ ac58 (retQ Go.Proofs.Tryd.prog [(ResultVar.cell 2 25)] R) ⟨argT args, hpOf L, Us.of (L.map (·.1))⟩) : ACall Go.Proofs.Tryd.prog 58 args L R :=
  acallA (by kernel_rfl) 7 [] [(ResultVar.cell 2 25)] Go.Proofs.Tryd.func58 (by kernel_rfl) Go.Proofs.Tryd.ntmps58 (by kernel_rfl) ha hL (va_of_ev _ h)
theorem en58 : enters Go.Proofs.Tryd.prog 58 = true := by kernel_rfl
def ac120 : ACode :=
  .seq (.reg [⟨none, some 2, (Op.assign (Operand.const (Value.slice none 0 0)))⟩])
  (.seq (.seq (.reg [⟨none, some 3, (Op.move (Operand.tmp 0))⟩,
       ⟨none, some 4, (Op.binOp BinOp.eql 23 (Operand.tmp 3) (Operand.const (Value.slice none 0 0)) 23)⟩])
    (.cond (Operand.tmp 4) (.seq (.reg [⟨none, some 2, (Op.assign (Operand.const (Value.slice none 0 0)))⟩])
      (.ret)) (.skip)))
   (.seq (.reg [⟨none, some 5, (Op.buildSlice 23 0 #[])⟩,
       ⟨none, some 6, (Op.move (Operand.tmp 0))⟩,
       ⟨none, some 7, (Op.call ⟨(Callee.builtin Builtin.append), #[(Operand.tmp 5), (Operand.tmp 6)], #[23, 23]⟩)⟩,
       ⟨none, some 2, (Op.assign (Operand.tmp 7))⟩])
    (.ret)))
theorem vc120 {args : List AV} {L : List (Nat × Ob)} {R : AV → List (Nat × Ob) → Prop} (ha : args.length ≤ 8) (hL : (L.map (·.1)).Nodup)
    (h : ev Go.Proofs.Tryd.prog ⟨8, L.map (·.1)⟩ ac120 (retQ Go.Proofs.Tryd.prog [(ResultVar.tmp 2)] R) ⟨argT args, hpOf L, Us.of (L.map (·.1))⟩) : ACall Go.Proofs.Tryd.prog 120 args L R :=
  acallA (by kernel_rfl) 8 [] [(ResultVar.tmp 2)] Go.Proofs.Tryd.func120 (by kernel_rfl) Go.Proofs.Tryd.ntmps120 (by kernel_rfl) ha hL (va_of_ev _ h)
theorem en120 : enters Go.Proofs.Tryd.prog 120 = true := by kernel_rfl
def ac176 : ACode :=
  .seq (.reg [⟨none, some 2, (Op.box 25 (Operand.tmp 0))⟩,
     ⟨none, some 4, (Op.assign (Operand.const (Value.int IntKind.i64 0)))⟩])
  (.seq (.reg [⟨none, some 8, (Op.load 25 (Operand.tmp 2))⟩,
      ⟨none, some 9, (Op.move (Operand.tmp 1))⟩,
      ⟨none, some 10, (Op.call ⟨(Callee.value (Operand.func 65)), #[(Operand.tmp 8), (Operand.tmp 9)], #[25, 9]⟩)⟩,
      ⟨none, some 7, (Op.move (Operand.tmp 10))⟩,
      ⟨none, some 11, (Op.extract (Operand.tmp 7) 0)⟩,
      ⟨none, some 12, (Op.extract (Operand.tmp 7) 1)⟩,
      ⟨none, some 5, (Op.assign (Operand.tmp 11))⟩,
      ⟨none, some 6, (Op.assign (Operand.tmp 12))⟩])
   (.seq (.block 0 (.seq (.reg [⟨none, some 14, (Op.move (Operand.tmp 1))⟩,
         ⟨none, some 15, (Op.call ⟨(Callee.value (Operand.func 67)), #[(Operand.tmp 14)], #[9]⟩)⟩,
         ⟨none, some 16, (Op.unOp UnOp.not 4 (Operand.tmp 15))⟩,
         ⟨none, some 13, (Op.assign (Operand.tmp 16))⟩])
      (.cond (Operand.tmp 13) (.seq (.reg [⟨none, some 4, (Op.assign (Operand.const (Value.int IntKind.i64 5)))⟩])
        (.ret)) (.seq (.reg [⟨none, some 18, (Op.move (Operand.tmp 6))⟩,
           ⟨none, some 17, (Op.assign (Operand.tmp 18))⟩])
        (.cond (Operand.tmp 17) (.seq (.reg [⟨none, some 4, (Op.assign (Operand.const (Value.int IntKind.i64 2)))⟩])
          (.ret)) (.seq (.reg [⟨none, some 20, (Op.fieldAddr 25 (Operand.tmp 2) 0)⟩,
             ⟨none, some 21, (Op.load 23 (Operand.tmp 20))⟩,
             ⟨none, some 22, (Op.call ⟨(Callee.builtin Builtin.len), #[(Operand.tmp 21)], #[23]⟩)⟩,
             ⟨none, some 23, (Op.binOp BinOp.eql 3 (Operand.tmp 22) (Operand.const (Value.int IntKind.i64 6)) 3)⟩,
             ⟨none, some 19, (Op.assign (Operand.tmp 23))⟩])
          (.cond (Operand.tmp 19) (.seq (.reg [⟨none, some 4, (Op.assign (Operand.const (Value.int IntKind.i64 4)))⟩])
            (.ret)) (.skip))))))))
    (.seq (.reg [⟨none, some 4, (Op.assign (Operand.const (Value.int IntKind.i64 0)))⟩])
     (.ret))))
theorem vc176 {args : List AV} {L : List (Nat × Ob)} {R : AV → List (Nat × Ob) → Prop} (ha : args.length ≤ 24) (hL : (L.map (·.1)).Nodup)
    (h : ev Go.Proofs.Tryd.prog ⟨24, L.map (·.1)⟩ ac176 (retQ Go.Proofs.Tryd.prog [(ResultVar.tmp 4)] R) ⟨argT args, hpOf L, Us.of (L.map (·.1))⟩) : ACall Go.Proofs.Tryd.prog 176 args L R :=
  acallA (by kernel_rfl) 24 [] [(ResultVar.tmp 4)] Go.Proofs.Tryd.func176 (by kernel_rfl) Go.Proofs.Tryd.ntmps176 (by kernel_rfl) ha hL (va_of_ev _ h)
theorem en176 : enters Go.Proofs.Tryd.prog 176 = true := by kernel_rfl
def ac121 : ACode :=
  .seq (.reg [⟨none, some 3, (Op.box 35 (Operand.tmp 1))⟩,
     ⟨none, some 4, (Op.assign (Operand.const (Value.int IntKind.i64 0)))⟩])
  (.seq (.draw [⟨⟨none, some 8, (Op.move (Operand.tmp 0))⟩, [], [], []⟩,
      ⟨⟨none, some 9, (Op.nilCheck (Operand.tmp 8))⟩, [], [], []⟩,
      ⟨⟨none, some 10, (Op.load 25 (Operand.tmp 9))⟩, [1000], [], []⟩,
      ⟨⟨none, some 11, (Op.fieldAddr 35 (Operand.tmp 3) 0)⟩, [], [1000], []⟩,
      ⟨⟨none, some 12, (Op.load 9 (Operand.tmp 11))⟩, [3], [1000], []⟩,
      ⟨⟨none, some 13, (Op.call ⟨(Callee.value (Operand.func 176)), #[(Operand.tmp 10), (Operand.tmp 12)], #[158, 9]⟩)⟩, [], [], []⟩,
      ⟨⟨none, some 5, (Op.assign (Operand.tmp 13))⟩, [], [], []⟩])
   (.seq (.seq (.reg [⟨none, some 14, (Op.move (Operand.tmp 5))⟩,
        ⟨none, some 15, (Op.binOp BinOp.eql 3 (Operand.tmp 14) (Operand.const (Value.int IntKind.i64 0)) 3)⟩])
     (.cond (Operand.tmp 15) (.seq (.draw [⟨⟨none, some 17, (Op.move (Operand.tmp 0))⟩, [], [], []⟩,
          ⟨⟨none, some 18, (Op.nilCheck (Operand.tmp 17))⟩, [], [], []⟩,
          ⟨⟨none, some 19, (Op.load 25 (Operand.tmp 18))⟩, [1000], [], []⟩,
          ⟨⟨none, some 20, (Op.fieldAddr 35 (Operand.tmp 3) 0)⟩, [], [1000], []⟩,
          ⟨⟨none, some 21, (Op.load 9 (Operand.tmp 20))⟩, [3], [1000], []⟩,
          ⟨⟨none, some 22, (Op.call ⟨(Callee.value (Operand.func 65)), #[(Operand.tmp 19), (Operand.tmp 21)], #[158, 9]⟩)⟩, [], [], []⟩,
          ⟨⟨none, some 16, (Op.move (Operand.tmp 22))⟩, [], [], []⟩,
          ⟨⟨none, some 23, (Op.extract (Operand.tmp 16) 0)⟩, [], [], []⟩,
          ⟨⟨none, some 24, (Op.extract (Operand.tmp 16) 1)⟩, [], [], []⟩,
          ⟨⟨none, some 6, (Op.assign (Operand.tmp 23))⟩, [], [], []⟩,
          ⟨⟨none, some 7, (Op.assign (Operand.tmp 24))⟩, [], [], []⟩])
       (.draw [⟨⟨none, some 25, (Op.move (Operand.tmp 0))⟩, [], [], []⟩,
          ⟨⟨none, some 26, (Op.move (Operand.tmp 0))⟩, [], [], []⟩,
          ⟨⟨none, some 27, (Op.nilCheck (Operand.tmp 26))⟩, [], [], []⟩,
          ⟨⟨none, some 28, (Op.fieldAddr 25 (Operand.tmp 27) 0)⟩, [], [], []⟩,
          ⟨⟨none, some 29, (Op.load 23 (Operand.tmp 28))⟩, [1000], [], []⟩,
          ⟨⟨none, some 30, (Op.move (Operand.tmp 6))⟩, [], [1000], []⟩,
          ⟨⟨none, some 31, (Op.load 35 (Operand.tmp 3))⟩, [3], [1000], []⟩,
          ⟨⟨none, some 32, (Op.buildSlice 23 1 #[(0, (Operand.tmp 31))])⟩, [], [1000], []⟩,
          ⟨⟨none, some 33, (Op.call ⟨(Callee.value (Operand.func 177)), #[(Operand.tmp 29), (Operand.tmp 30), (Operand.tmp 32)], #[23, 3, 23]⟩)⟩, [], [], []⟩,
          ⟨⟨none, some 34, (Op.nilCheck (Operand.tmp 25))⟩, [], [], []⟩,
          ⟨⟨none, some 35, (Op.fieldAddr 25 (Operand.tmp 34) 0)⟩, [], [], []⟩,
          ⟨⟨none, none, (Op.store 23 (Operand.tmp 35) (Operand.tmp 33))⟩, [], [], []⟩])) (.skip)))
    (.seq (.reg [⟨none, some 36, (Op.move (Operand.tmp 5))⟩,
        ⟨none, some 4, (Op.assign (Operand.tmp 36))⟩])
     (.ret))))
theorem vc121 {args : List AV} {L : List (Nat × Ob)} {R : AV → List (Nat × Ob) → Prop} (ha : args.length ≤ 37) (hL : (L.map (·.1)).Nodup)
    (h : ev Go.Proofs.Tryd.prog ⟨37, L.map (·.1)⟩ ac121 (retQ Go.Proofs.Tryd.prog [(ResultVar.tmp 4)] R) ⟨argT args, hpOf L, Us.of (L.map (·.1))⟩) : ACall Go.Proofs.Tryd.prog 121 args L R :=
  acallA (by kernel_rfl) 37 [(1, [⟨0, [], [], [], [1, 2, 5, 6]⟩, ⟨1, [], [], [], [2, 5, 6]⟩, ⟨2, [1000], [], [], [5, 6]⟩, ⟨3, [], [1000], [], [4, 5, 6]⟩, ⟨4, [3], [1000], [], [5, 6]⟩, ⟨5, [], [], [], [6]⟩, ⟨6, [], [], [], []⟩]), (3, [⟨0, [], [], [], [1, 2, 5, 6, 7, 8, 9, 10]⟩, ⟨1, [], [], [], [2, 5, 6, 7, 8, 9, 10]⟩, ⟨2, [1000], [], [], [5, 6, 7, 8, 9, 10]⟩, ⟨3, [], [1000], [], [4, 5, 6, 7, 8, 9, 10]⟩, ⟨4, [3], [1000], [], [5, 6, 7, 8, 9, 10]⟩, ⟨5, [], [], [], [6, 7, 8, 9, 10]⟩, ⟨6, [], [], [], [7, 8, 9, 10]⟩, ⟨7, [], [], [], [9, 10]⟩, ⟨8, [], [], [], [10]⟩, ⟨9, [], [], [], [10]⟩, ⟨10, [], [], [], []⟩]), (4, [⟨0, [], [], [], [9, 10, 11]⟩, ⟨1, [], [], [], [2, 3, 4, 8, 9, 10, 11]⟩, ⟨2, [], [], [], [3, 4, 8, 9, 10, 11]⟩, ⟨3, [], [], [], [4, 8, 9, 10, 11]⟩, ⟨4, [1000], [], [], [8, 9, 10, 11]⟩, ⟨5, [], [1000], [], [8, 9, 10, 11]⟩, ⟨6, [3], [1000], [], [7, 8, 9, 10, 11]⟩, ⟨7, [], [1000], [], [8, 9, 10, 11]⟩, ⟨8, [], [], [], [9, 10, 11]⟩, ⟨9, [], [], [], [10, 11]⟩, ⟨10, [], [], [], [11]⟩, ⟨11, [], [], [], []⟩])] [(ResultVar.tmp 4)] Go.Proofs.Tryd.func121 (by kernel_rfl) Go.Proofs.Tryd.ntmps121 (by kernel_rfl) ha hL (va_of_ev _ h)
theorem en121 : enters Go.Proofs.Tryd.prog 121 = true := by kernel_rfl
def ac122 : ACode :=
  .seq (.reg [⟨none, some 2, (Op.box 35 (Operand.tmp 0))⟩,
     ⟨none, some 3, (Op.assign (Operand.const (Value.bool false)))⟩])
  (.seq (.reg [⟨none, some 4, (Op.fieldAddr 35 (Operand.tmp 2) 2)⟩,
      ⟨none, some 5, (Op.load 9 (Operand.tmp 4))⟩,
      ⟨none, some 6, (Op.fieldAddr 27 (Operand.tmp 1) 1)⟩,
      ⟨none, some 7, (Op.load 9 (Operand.tmp 6))⟩,
      ⟨none, some 8, (Op.binOp BinOp.eql 9 (Operand.tmp 5) (Operand.tmp 7) 9)⟩,
      ⟨none, some 3, (Op.assign (Operand.tmp 8))⟩])
   (.ret))
theorem vc122 {args : List AV} {L : List (Nat × Ob)} {R : AV → List (Nat × Ob) → Prop} (ha : args.length ≤ 9) (hL : (L.map (·.1)).Nodup)
    (h : ev Go.Proofs.Tryd.prog ⟨9, L.map (·.1)⟩ ac122 (retQ Go.Proofs.Tryd.prog [(ResultVar.tmp 3)] R) ⟨argT args, hpOf L, Us.of (L.map (·.1))⟩) : ACall Go.Proofs.Tryd.prog 122 args L R :=
  acallA (by kernel_rfl) 9 [] [(ResultVar.tmp 3)] Go.Proofs.Tryd.func122 (by kernel_rfl) Go.Proofs.Tryd.ntmps122 (by kernel_rfl) ha hL (va_of_ev _ h)
theorem en122 : enters Go.Proofs.Tryd.prog 122 = true := by kernel_rfl
def ac16 : ACode :=
  .seq (.reg [⟨none, some 2, (Op.box 25 (Operand.tmp 0))⟩,
     ⟨none, some 3, (Op.box 27 (Operand.tmp 1))⟩,
     ⟨none, some 4, (Op.alloc 25)⟩,
     ⟨none, some 5, (Op.assign (Operand.const (Value.int IntKind.i64 0)))⟩])
  (.seq (.seq (.reg [⟨none, some 8, (Op.load 25 (Operand.tmp 2))⟩,
       ⟨none, some 9, (Op.call ⟨(Callee.value (Operand.func 21)), #[(Operand.tmp 8)], #[25]⟩)⟩,
       ⟨none, some 10, (Op.unOp UnOp.not 4 (Operand.tmp 9))⟩])
    (.cond (Operand.tmp 10) (.seq (.reg [⟨none, some 11, (Op.build 25 #[])⟩,
         ⟨none, none, (Op.store 25 (Operand.tmp 4) (Operand.tmp 11))⟩,
         ⟨none, some 5, (Op.assign (Operand.const (Value.int IntKind.i64 5)))⟩])
      (.ret)) (.skip)))
   (.seq (.reg [⟨none, some 12, (Op.load 25 (Operand.tmp 2))⟩,
       ⟨none, some 13, (Op.call ⟨(Callee.value (Operand.func 58)), #[(Operand.tmp 12)], #[25]⟩)⟩,
       ⟨none, some 6, (Op.alloc 25)⟩,
       ⟨none, none, (Op.store 25 (Operand.tmp 6) (Operand.tmp 13))⟩])
    (.seq (.reg [⟨none, some 14, (Op.load 27 (Operand.tmp 3))⟩,
        ⟨none, some 15, (Op.call ⟨(Callee.value (Operand.func 59)), #[(Operand.tmp 6), (Operand.tmp 14)], #[25, 27]⟩)⟩,
        ⟨none, some 7, (Op.assign (Operand.tmp 15))⟩])
     (.seq (.reg [⟨none, some 16, (Op.load 25 (Operand.tmp 6))⟩,
         ⟨none, some 17, (Op.call ⟨(Callee.value (Operand.func 58)), #[(Operand.tmp 16)], #[25]⟩)⟩,
         ⟨none, some 18, (Op.move (Operand.tmp 7))⟩,
         ⟨none, none, (Op.store 25 (Operand.tmp 4) (Operand.tmp 17))⟩,
         ⟨none, some 5, (Op.assign (Operand.tmp 18))⟩])
      (.ret)))))
theorem vc16 {args : List AV} {L : List (Nat × Ob)} {R : AV → List (Nat × Ob) → Prop} (ha : args.length ≤ 19) (hL : (L.map (·.1)).Nodup)
    (h : ev Go.Proofs.Tryd.prog ⟨19, L.map (·.1)⟩ ac16 (retQ Go.Proofs.Tryd.prog [(ResultVar.cell 4 25), (ResultVar.tmp 5)] R) ⟨argT args, hpOf L, Us.of (L.map (·.1))⟩) : ACall Go.Proofs.Tryd.prog 16 args L R :=
  acallA (by kernel_rfl) 19 [] [(ResultVar.cell 4 25), (ResultVar.tmp 5)] Go.Proofs.Tryd.func16 (by kernel_rfl) Go.Proofs.Tryd.ntmps16 (by kernel_rfl) ha hL (va_of_ev _ h)
def ac133_l0 : ACode :=
  .seq (.reg [⟨none, some 9, (Op.binOp BinOp.lss 3 (Operand.tmp 8) (Operand.tmp 7) 3)⟩])
  (.seq (.cond (Operand.tmp 9) (.skip) (.exit 0))
   (.seq (.block 1 (.seq (.reg [⟨none, some 10, (Op.move (Operand.tmp 8))⟩,
         ⟨none, some 5, (Op.assign (Operand.tmp 10))⟩])
      (.seq (.reg [⟨none, some 11, (Op.move (Operand.tmp 1))⟩,
          ⟨none, some 12, (Op.move (Operand.tmp 0))⟩,
          ⟨none, some 13, (Op.move (Operand.tmp 5))⟩,
          ⟨none, some 14, (Op.indexAddr 42 (Operand.tmp 12) (Operand.tmp 13))⟩,
          ⟨none, some 15, (Op.load 9 (Operand.tmp 14))⟩,
          ⟨none, some 16, (Op.call ⟨(Callee.value (Operand.tmp 11)), #[(Operand.tmp 15)], #[9]⟩)⟩])
       (.cond (Operand.tmp 16) (.seq (.reg [⟨none, some 17, (Op.move (Operand.tmp 5))⟩,
            ⟨none, some 4, (Op.assign (Operand.tmp 17))⟩])
         (.ret)) (.skip)))))
    (.reg [⟨none, some 18, (Op.binOp BinOp.add 3 (Operand.tmp 8) (Operand.const (Value.int IntKind.i64 1)) 3)⟩,
       ⟨none, some 8, (Op.move (Operand.tmp 18))⟩])))
def ac133 : ACode :=
  .seq (.reg [⟨none, some 4, (Op.assign (Operand.const (Value.int IntKind.i64 0)))⟩])
  (.seq (.seq (.reg [⟨none, some 6, (Op.move (Operand.tmp 0))⟩,
       ⟨none, some 7, (Op.call ⟨(Callee.builtin Builtin.len), #[(Operand.tmp 6)], #[42]⟩)⟩,
       ⟨none, some 8, (Op.move (Operand.const (Value.int IntKind.i64 0)))⟩])
    (.block 0 (.loop ac133_l0)))
   (.seq (.reg [⟨none, some 4, (Op.assign (Operand.const (Value.int IntKind.i64 (-1))))⟩])
    (.ret)))
theorem vc133 {args : List AV} {L : List (Nat × Ob)} {R : AV → List (Nat × Ob) → Prop} (ha : args.length ≤ 19) (hL : (L.map (·.1)).Nodup)
    (h : ev Go.Proofs.Tryd.prog ⟨19, L.map (·.1)⟩ ac133 (retQ Go.Proofs.Tryd.prog [(ResultVar.tmp 4)] R) ⟨argT args, hpOf L, Us.of (L.map (·.1))⟩) : ACall Go.Proofs.Tryd.prog 133 args L R :=
  acallA (by kernel_rfl) 19 [] [(ResultVar.tmp 4)] Go.Proofs.Tryd.func133 (by kernel_rfl) Go.Proofs.Tryd.ntmps133 (by kernel_rfl) ha hL (va_of_ev _ h)
theorem en133 : enters Go.Proofs.Tryd.prog 133 = true := by kernel_rfl
end Go.Av.F
end
section
namespace Go.Av.F
open Go Go.Av
set_option maxRecDepth 100000
set_option linter.constructorNameAsVariable false
def ac177 : ACode :=
  .seq (.reg [⟨none, some 6, (Op.assign (Operand.const (Value.slice none 0 0)))⟩])
  (.seq (.reg [⟨none, some 10, (Op.move (Operand.tmp 0))⟩,
      ⟨none, some 11, (Op.move (Operand.tmp 1))⟩,
      ⟨none, some 12, (Op.slice 23 (Operand.tmp 10) (some (Operand.tmp 11)) none none)⟩])
   (.seq (.reg [⟨none, some 13, (Op.move (Operand.tmp 2))⟩,
       ⟨none, some 14, (Op.call ⟨(Callee.builtin Builtin.len), #[(Operand.tmp 13)], #[23]⟩)⟩,
       ⟨none, some 7, (Op.assign (Operand.tmp 14))⟩])
    (.seq (.seq (.reg [⟨none, some 15, (Op.move (Operand.tmp 7))⟩,
         ⟨none, some 16, (Op.binOp BinOp.eql 3 (Operand.tmp 15) (Operand.const (Value.int IntKind.i64 0)) 3)⟩])
      (.cond (Operand.tmp 16) (.seq (.reg [⟨none, some 17, (Op.move (Operand.tmp 0))⟩,
           ⟨none, some 6, (Op.assign (Operand.tmp 17))⟩])
        (.ret)) (.skip)))
     (.seq (.reg [⟨none, some 18, (Op.move (Operand.tmp 0))⟩,
         ⟨none, some 19, (Op.call ⟨(Callee.builtin Builtin.len), #[(Operand.tmp 18)], #[23]⟩)⟩,
         ⟨none, some 8, (Op.assign (Operand.tmp 19))⟩])
      (.seq (.seq (.reg [⟨none, some 20, (Op.move (Operand.tmp 1))⟩,
           ⟨none, some 21, (Op.move (Operand.tmp 8))⟩,
           ⟨none, some 22, (Op.binOp BinOp.eql 3 (Operand.tmp 20) (Operand.tmp 21) 3)⟩])
        (.cond (Operand.tmp 22) (.seq (.reg [⟨none, some 23, (Op.move (Operand.tmp 0))⟩,
             ⟨none, some 24, (Op.move (Operand.tmp 2))⟩,
             ⟨none, some 25, (Op.call ⟨(Callee.builtin Builtin.append), #[(Operand.tmp 23), (Operand.tmp 24)], #[23, 23]⟩)⟩,
             ⟨none, some 6, (Op.assign (Operand.tmp 25))⟩])
          (.ret)) (.skip)))
       (.seq (.seq (.reg [⟨none, some 26, (Op.move (Operand.tmp 8))⟩,
            ⟨none, some 27, (Op.move (Operand.tmp 7))⟩,
            ⟨none, some 28, (Op.binOp BinOp.add 3 (Operand.tmp 26) (Operand.tmp 27) 3)⟩,
            ⟨none, some 29, (Op.move (Operand.tmp 0))⟩,
            ⟨none, some 30, (Op.call ⟨(Callee.builtin Builtin.cap), #[(Operand.tmp 29)], #[23]⟩)⟩,
            ⟨none, some 31, (Op.binOp BinOp.gtr 3 (Operand.tmp 28) (Operand.tmp 30) 3)⟩])
         (.cond (Operand.tmp 31) (.seq (.reg [⟨none, some 32, (Op.move (Operand.tmp 0))⟩,
              ⟨none, some 33, (Op.move (Operand.tmp 1))⟩,
              ⟨none, some 34, (Op.slice 23 (Operand.tmp 32) none (some (Operand.tmp 33)) none)⟩,
              ⟨none, some 35, (Op.move (Operand.tmp 8))⟩,
              ⟨none, some 36, (Op.move (Operand.tmp 7))⟩,
              ⟨none, some 37, (Op.binOp BinOp.add 3 (Operand.tmp 35) (Operand.tmp 36) 3)⟩,
              ⟨none, some 38, (Op.move (Operand.tmp 1))⟩,
              ⟨none, some 39, (Op.binOp BinOp.sub 3 (Operand.tmp 37) (Operand.tmp 38) 3)⟩,
              ⟨none, some 40, (Op.call ⟨(Callee.builtin Builtin.append), #[(Operand.tmp 34), (Operand.tmp 39)], #[23, 3]⟩)⟩,
              ⟨none, some 9, (Op.assign (Operand.tmp 40))⟩])
           (.seq (.reg [⟨none, some 41, (Op.move (Operand.tmp 9))⟩,
               ⟨none, some 42, (Op.move (Operand.tmp 1))⟩,
               ⟨none, some 43, (Op.slice 23 (Operand.tmp 41) (some (Operand.tmp 42)) none none)⟩,
               ⟨none, some 44, (Op.move (Operand.tmp 2))⟩,
               ⟨none, some 45, (Op.call ⟨(Callee.builtin Builtin.copy), #[(Operand.tmp 43), (Operand.tmp 44)], #[23, 23]⟩)⟩])
            (.seq (.draw [⟨⟨none, some 46, (Op.move (Operand.tmp 9))⟩, [], [], []⟩,
                ⟨⟨none, some 47, (Op.move (Operand.tmp 1))⟩, [], [], []⟩,
                ⟨⟨none, some 48, (Op.move (Operand.tmp 7))⟩, [], [], []⟩,
                ⟨⟨none, some 49, (Op.binOp BinOp.add 3 (Operand.tmp 47) (Operand.tmp 48) 3)⟩, [], [], []⟩,
                ⟨⟨none, some 50, (Op.slice 23 (Operand.tmp 46) (some (Operand.tmp 49)) none none)⟩, [40, 1000], [], []⟩,
                ⟨⟨none, some 51, (Op.move (Operand.tmp 0))⟩, [], [40, 1000], []⟩,
                ⟨⟨none, some 52, (Op.move (Operand.tmp 1))⟩, [], [40, 1000], []⟩,
                ⟨⟨none, some 53, (Op.slice 23 (Operand.tmp 51) (some (Operand.tmp 52)) none none)⟩, [40, 1000], [40, 1000], []⟩,
                ⟨⟨none, some 54, (Op.call ⟨(Callee.builtin Builtin.copy), #[(Operand.tmp 50), (Operand.tmp 53)], #[23, 23]⟩)⟩, [], [], []⟩])
             (.seq (.reg [⟨none, some 55, (Op.move (Operand.tmp 9))⟩,
                 ⟨none, some 6, (Op.assign (Operand.tmp 55))⟩])
              (.ret))))) (.skip)))
        (.seq (.reg [⟨none, some 56, (Op.move (Operand.tmp 0))⟩,
            ⟨none, some 57, (Op.move (Operand.tmp 8))⟩,
            ⟨none, some 58, (Op.move (Operand.tmp 7))⟩,
            ⟨none, some 59, (Op.binOp BinOp.add 3 (Operand.tmp 57) (Operand.tmp 58) 3)⟩,
            ⟨none, some 60, (Op.slice 23 (Operand.tmp 56) none (some (Operand.tmp 59)) none)⟩,
            ⟨none, some 0, (Op.assign (Operand.tmp 60))⟩])
         (.seq (.seq (.reg [⟨none, some 61, (Op.move (Operand.tmp 2))⟩,
              ⟨none, some 62, (Op.move (Operand.tmp 0))⟩,
              ⟨none, some 63, (Op.move (Operand.tmp 1))⟩,
              ⟨none, some 64, (Op.move (Operand.tmp 7))⟩,
              ⟨none, some 65, (Op.binOp BinOp.add 3 (Operand.tmp 63) (Operand.tmp 64) 3)⟩,
              ⟨none, some 66, (Op.slice 23 (Operand.tmp 62) (some (Operand.tmp 65)) none none)⟩,
              ⟨none, some 67, (Op.call ⟨(Callee.value (Operand.func 213)), #[(Operand.tmp 61), (Operand.tmp 66)], #[23, 23]⟩)⟩,
              ⟨none, some 68, (Op.unOp UnOp.not 4 (Operand.tmp 67))⟩])
           (.cond (Operand.tmp 68) (.seq (.draw [⟨⟨none, some 69, (Op.move (Operand.tmp 0))⟩, [], [], []⟩,
                ⟨⟨none, some 70, (Op.move (Operand.tmp 1))⟩, [], [], []⟩,
                ⟨⟨none, some 71, (Op.move (Operand.tmp 7))⟩, [], [], []⟩,
                ⟨⟨none, some 72, (Op.binOp BinOp.add 3 (Operand.tmp 70) (Operand.tmp 71) 3)⟩, [], [], []⟩,
                ⟨⟨none, some 73, (Op.slice 23 (Operand.tmp 69) (some (Operand.tmp 72)) none none)⟩, [1000], [], []⟩,
                ⟨⟨none, some 74, (Op.move (Operand.tmp 0))⟩, [], [1000], []⟩,
                ⟨⟨none, some 75, (Op.move (Operand.tmp 1))⟩, [], [1000], []⟩,
                ⟨⟨none, some 76, (Op.slice 23 (Operand.tmp 74) (some (Operand.tmp 75)) none none)⟩, [1000], [1000], []⟩,
                ⟨⟨none, some 77, (Op.call ⟨(Callee.builtin Builtin.copy), #[(Operand.tmp 73), (Operand.tmp 76)], #[23, 23]⟩)⟩, [], [], []⟩])
             (.seq (.reg [⟨none, some 78, (Op.move (Operand.tmp 0))⟩,
                 ⟨none, some 79, (Op.move (Operand.tmp 1))⟩,
                 ⟨none, some 80, (Op.slice 23 (Operand.tmp 78) (some (Operand.tmp 79)) none none)⟩,
                 ⟨none, some 81, (Op.move (Operand.tmp 2))⟩,
                 ⟨none, some 82, (Op.call ⟨(Callee.builtin Builtin.copy), #[(Operand.tmp 80), (Operand.tmp 81)], #[23, 23]⟩)⟩])
              (.seq (.reg [⟨none, some 83, (Op.move (Operand.tmp 0))⟩,
                  ⟨none, some 6, (Op.assign (Operand.tmp 83))⟩])
               (.ret)))) (.skip)))
          (.seq (.reg [⟨none, some 84, (Op.move (Operand.tmp 0))⟩,
              ⟨none, some 85, (Op.move (Operand.tmp 8))⟩,
              ⟨none, some 86, (Op.slice 23 (Operand.tmp 84) (some (Operand.tmp 85)) none none)⟩,
              ⟨none, some 87, (Op.move (Operand.tmp 2))⟩,
              ⟨none, some 88, (Op.call ⟨(Callee.builtin Builtin.copy), #[(Operand.tmp 86), (Operand.tmp 87)], #[23, 23]⟩)⟩])
           (.seq (.reg [⟨none, some 89, (Op.move (Operand.tmp 0))⟩,
               ⟨none, some 90, (Op.move (Operand.tmp 1))⟩,
               ⟨none, some 91, (Op.slice 23 (Operand.tmp 89) (some (Operand.tmp 90)) none none)⟩,
               ⟨none, some 92, (Op.move (Operand.tmp 7))⟩,
               ⟨none, some 93, (Op.call ⟨(Callee.value (Operand.func 214)), #[(Operand.tmp 91), (Operand.tmp 92)], #[23, 3]⟩)⟩])
            (.seq (.reg [⟨none, some 94, (Op.move (Operand.tmp 0))⟩,
                ⟨none, some 6, (Op.assign (Operand.tmp 94))⟩])
             (.ret))))))))))))
theorem vc177 {args : List AV} {L : List (Nat × Ob)} {R : AV → List (Nat × Ob) → Prop} (ha : args.length ≤ 95) (hL : (L.map (·.1)).Nodup)
    (h : ev Go.Proofs.Tryd.prog ⟨95, L.map (·.1)⟩ ac177 (retQ Go.Proofs.Tryd.prog [(ResultVar.tmp 6)] R) ⟨argT args, hpOf L, Us.of (L.map (·.1))⟩) : ACall Go.Proofs.Tryd.prog 177 args L R :=
  acallA (by kernel_rfl) 95 [(11, [⟨0, [], [], [], [4, 8]⟩, ⟨1, [], [], [], [3, 4, 8]⟩, ⟨2, [], [], [], [3, 4, 8]⟩, ⟨3, [], [], [], [4, 8]⟩, ⟨4, [40, 1000], [], [], [8]⟩, ⟨5, [], [40, 1000], [], [7, 8]⟩, ⟨6, [], [40, 1000], [], [7, 8]⟩, ⟨7, [40, 1000], [40, 1000], [], [8]⟩, ⟨8, [], [], [], []⟩]), (15, [⟨0, [], [], [], [4, 8]⟩, ⟨1, [], [], [], [3, 4, 8]⟩, ⟨2, [], [], [], [3, 4, 8]⟩, ⟨3, [], [], [], [4, 8]⟩, ⟨4, [1000], [], [], [8]⟩, ⟨5, [], [1000], [], [7, 8]⟩, ⟨6, [], [1000], [], [7, 8]⟩, ⟨7, [1000], [1000], [], [8]⟩, ⟨8, [], [], [], []⟩])] [(ResultVar.tmp 6)] Go.Proofs.Tryd.func177 (by kernel_rfl) Go.Proofs.Tryd.ntmps177 (by kernel_rfl) ha hL (va_of_ev _ h)
theorem en177 : enters Go.Proofs.Tryd.prog 177 = true := by kernel_rfl
def ac123 : ACode :=
  .seq (.reg [⟨none, some 6, (Op.assign (Operand.const (Value.slice none 0 0)))⟩])
  (.seq (.reg [⟨none, some 8, (Op.move (Operand.tmp 0))⟩,
      ⟨none, some 9, (Op.move (Operand.tmp 1))⟩,
      ⟨none, some 10, (Op.move (Operand.tmp 2))⟩,
      ⟨none, some 11, (Op.move (Operand.tmp 0))⟩,
      ⟨none, some 12, (Op.call ⟨(Callee.builtin Builtin.len), #[(Operand.tmp 11)], #[23]⟩)⟩,
      ⟨none, some 13, (Op.slice 23 (Operand.tmp 8) (some (Operand.tmp 9)) (some (Operand.tmp 10)) (some (Operand.tmp 12)))⟩])
   (.seq (.seq (.reg [⟨none, some 14, (Op.move (Operand.tmp 1))⟩,
        ⟨none, some 15, (Op.move (Operand.tmp 2))⟩,
        ⟨none, some 16, (Op.binOp BinOp.eql 3 (Operand.tmp 14) (Operand.tmp 15) 3)⟩])
     (.cond (Operand.tmp 16) (.seq (.reg [⟨none, some 17, (Op.move (Operand.tmp 0))⟩,
          ⟨none, some 6, (Op.assign (Operand.tmp 17))⟩])
       (.ret)) (.skip)))
    (.seq (.reg [⟨none, some 18, (Op.move (Operand.tmp 0))⟩,
        ⟨none, some 19, (Op.call ⟨(Callee.builtin Builtin.len), #[(Operand.tmp 18)], #[23]⟩)⟩,
        ⟨none, some 7, (Op.assign (Operand.tmp 19))⟩])
     (.seq (.draw [⟨⟨none, some 20, (Op.move (Operand.tmp 0))⟩, [], [], []⟩,
         ⟨⟨none, some 21, (Op.move (Operand.tmp 1))⟩, [], [], []⟩,
         ⟨⟨none, some 22, (Op.slice 23 (Operand.tmp 20) none (some (Operand.tmp 21)) none)⟩, [1000], [], []⟩,
         ⟨⟨none, some 23, (Op.move (Operand.tmp 0))⟩, [], [1000], []⟩,
         ⟨⟨none, some 24, (Op.move (Operand.tmp 2))⟩, [], [1000], []⟩,
         ⟨⟨none, some 25, (Op.slice 23 (Operand.tmp 23) (some (Operand.tmp 24)) none none)⟩, [1000], [1000], []⟩,
         ⟨⟨none, some 26, (Op.call ⟨(Callee.builtin Builtin.append), #[(Operand.tmp 22), (Operand.tmp 25)], #[23, 23]⟩)⟩, [], [], []⟩,
         ⟨⟨none, some 0, (Op.assign (Operand.tmp 26))⟩, [], [], []⟩])
      (.seq (.reg [⟨none, some 27, (Op.move (Operand.tmp 0))⟩,
          ⟨none, some 28, (Op.move (Operand.tmp 0))⟩,
          ⟨none, some 29, (Op.call ⟨(Callee.builtin Builtin.len), #[(Operand.tmp 28)], #[23]⟩)⟩,
          ⟨none, some 30, (Op.move (Operand.tmp 7))⟩,
          ⟨none, some 31, (Op.slice 23 (Operand.tmp 27) (some (Operand.tmp 29)) (some (Operand.tmp 30)) none)⟩,
          ⟨none, none, (Op.call ⟨(Callee.builtin Builtin.clear), #[(Operand.tmp 31)], #[23]⟩)⟩])
       (.seq (.reg [⟨none, some 32, (Op.move (Operand.tmp 0))⟩,
           ⟨none, some 6, (Op.assign (Operand.tmp 32))⟩])
        (.ret)))))))
theorem vc123 {args : List AV} {L : List (Nat × Ob)} {R : AV → List (Nat × Ob) → Prop} (ha : args.length ≤ 33) (hL : (L.map (·.1)).Nodup)
    (h : ev Go.Proofs.Tryd.prog ⟨33, L.map (·.1)⟩ ac123 (retQ Go.Proofs.Tryd.prog [(ResultVar.tmp 6)] R) ⟨argT args, hpOf L, Us.of (L.map (·.1))⟩) : ACall Go.Proofs.Tryd.prog 123 args L R :=
  acallA (by kernel_rfl) 33 [(5, [⟨0, [], [], [], [2, 6, 7]⟩, ⟨1, [], [], [], [2, 6, 7]⟩, ⟨2, [1000], [], [], [6, 7]⟩, ⟨3, [], [1000], [], [5, 6, 7]⟩, ⟨4, [], [1000], [], [5, 6, 7]⟩, ⟨5, [1000], [1000], [], [6, 7]⟩, ⟨6, [], [], [], [7]⟩, ⟨7, [], [], [], []⟩])] [(ResultVar.tmp 6)] Go.Proofs.Tryd.func123 (by kernel_rfl) Go.Proofs.Tryd.ntmps123 (by kernel_rfl) ha hL (va_of_ev _ h)
theorem en123 : enters Go.Proofs.Tryd.prog 123 = true := by kernel_rfl
def ac59 : ACode :=
  .seq (.reg [⟨none, some 3, (Op.box 27 (Operand.tmp 1))⟩,
     ⟨none, some 4, (Op.assign (Operand.const (Value.int IntKind.i64 0)))⟩])
  (.seq (.seq (.reg [⟨none, some 12, (Op.fieldAddr 27 (Operand.tmp 3) 0)⟩,
       ⟨none, some 13, (Op.load 3 (Operand.tmp 12))⟩,
       ⟨none, some 14, (Op.binOp BinOp.eql 3 (Operand.tmp 13) (Operand.const (Value.int IntKind.i64 1)) 3)⟩])
    (.cond (Operand.tmp 14) (.seq (.reg [⟨none, some 15, (Op.move (Operand.tmp 0))⟩,
         ⟨none, some 16, (Op.fieldAddr 27 (Operand.tmp 3) 1)⟩,
         ⟨none, some 17, (Op.load 9 (Operand.tmp 16))⟩,
         ⟨none, some 18, (Op.build 35 #[(0, (Operand.tmp 17)), (1, (Operand.const (Value.int IntKind.i64 1)))])⟩,
         ⟨none, some 19, (Op.call ⟨(Callee.value (Operand.func 121)), #[(Operand.tmp 15), (Operand.tmp 18)], #[158, 35]⟩)⟩,
         ⟨none, some 4, (Op.assign (Operand.tmp 19))⟩])
      (.ret)) (.skip)))
   (.seq (.draw [⟨⟨none, some 21, (Op.move (Operand.tmp 0))⟩, [], [], []⟩,
       ⟨⟨none, some 22, (Op.nilCheck (Operand.tmp 21))⟩, [], [], []⟩,
       ⟨⟨none, some 23, (Op.load 25 (Operand.tmp 22))⟩, [1000], [], []⟩,
       ⟨⟨none, some 24, (Op.fieldAddr 27 (Operand.tmp 3) 1)⟩, [], [1000], []⟩,
       ⟨⟨none, some 25, (Op.load 9 (Operand.tmp 24))⟩, [3], [1000], []⟩,
       ⟨⟨none, some 26, (Op.call ⟨(Callee.value (Operand.func 65)), #[(Operand.tmp 23), (Operand.tmp 25)], #[158, 9]⟩)⟩, [], [], []⟩,
       ⟨⟨none, some 20, (Op.move (Operand.tmp 26))⟩, [], [], []⟩,
       ⟨⟨none, some 27, (Op.extract (Operand.tmp 20) 0)⟩, [], [], []⟩,
       ⟨⟨none, some 28, (Op.extract (Operand.tmp 20) 1)⟩, [], [], []⟩,
       ⟨⟨none, some 5, (Op.assign (Operand.tmp 27))⟩, [], [], []⟩,
       ⟨⟨none, some 6, (Op.assign (Operand.tmp 28))⟩, [], [], []⟩])
    (.seq (.block 0 (.seq (.reg [⟨none, some 30, (Op.fieldAddr 27 (Operand.tmp 3) 0)⟩,
          ⟨none, some 31, (Op.load 3 (Operand.tmp 30))⟩,
          ⟨none, some 32, (Op.call ⟨(Callee.value (Operand.func 76)), #[(Operand.tmp 31), (Operand.const (Value.int IntKind.i64 1)), (Operand.const (Value.int IntKind.i64 6))], #[3, 3, 3]⟩)⟩,
          ⟨none, some 33, (Op.unOp UnOp.not 4 (Operand.tmp 32))⟩,
          ⟨none, some 29, (Op.assign (Operand.tmp 33))⟩])
       (.cond (Operand.tmp 29) (.seq (.reg [⟨none, some 4, (Op.assign (Operand.const (Value.int IntKind.i64 5)))⟩])
         (.ret)) (.seq (.reg [⟨none, some 35, (Op.move (Operand.tmp 6))⟩,
            ⟨none, some 36, (Op.unOp UnOp.not 4 (Operand.tmp 35))⟩,
            ⟨none, some 34, (Op.assign (Operand.tmp 36))⟩])
         (.cond (Operand.tmp 34) (.seq (.reg [⟨none, some 4, (Op.assign (Operand.const (Value.int IntKind.i64 1)))⟩])
           (.ret)) (.skip))))))
     (.seq (.reg [⟨none, some 37, (Op.move (Operand.tmp 0))⟩,
         ⟨none, some 38, (Op.nilCheck (Operand.tmp 37))⟩,
         ⟨none, some 39, (Op.fieldAddr 25 (Operand.tmp 38) 0)⟩,
         ⟨none, some 40, (Op.load 23 (Operand.tmp 39))⟩,
         ⟨none, some 41, (Op.move (Operand.tmp 5))⟩,
         ⟨none, some 42, (Op.indexAddr 23 (Operand.tmp 40) (Operand.tmp 41))⟩,
         ⟨none, some 7, (Op.assign (Operand.tmp 42))⟩])
      (.seq (.seq (.reg [⟨none, some 43, (Op.fieldAddr 27 (Operand.tmp 3) 0)⟩,
           ⟨none, some 44, (Op.load 3 (Operand.tmp 43))⟩])
        (.block 1 (.seq (.reg [⟨none, some 99, (Op.binOp BinOp.eql 3 (Operand.tmp 44) (Operand.const (Value.int IntKind.i64 2)) 3)⟩,
             ⟨none, some 98, (Op.assign (Operand.tmp 99))⟩])
          (.cond (Operand.tmp 98) (.seq (.seq (.reg [⟨none, some 100, (Op.move (Operand.tmp 0))⟩,
                ⟨none, some 101, (Op.nilCheck (Operand.tmp 100))⟩,
                ⟨none, some 102, (Op.fieldAddr 25 (Operand.tmp 101) 0)⟩,
                ⟨none, some 103, (Op.load 23 (Operand.tmp 102))⟩,
                ⟨none, some 104, (Op.makeFunc (Fn.func 122) #[] #[(Operand.tmp 3)])⟩,
                ⟨none, some 105, (Op.call ⟨(Callee.value (Operand.func 70)), #[(Operand.tmp 103), (Operand.tmp 104)], #[23, 103]⟩)⟩])
             (.cond (Operand.tmp 105) (.seq (.reg [⟨none, some 4, (Op.assign (Operand.const (Value.int IntKind.i64 6)))⟩])
               (.ret)) (.skip)))
            (.reg [⟨none, some 106, (Op.move (Operand.tmp 0))⟩,
               ⟨none, some 107, (Op.move (Operand.tmp 0))⟩,
               ⟨none, some 108, (Op.nilCheck (Operand.tmp 107))⟩,
               ⟨none, some 109, (Op.fieldAddr 25 (Operand.tmp 108) 0)⟩,
               ⟨none, some 110, (Op.load 23 (Operand.tmp 109))⟩,
               ⟨none, some 111, (Op.move (Operand.tmp 5))⟩,
               ⟨none, some 112, (Op.move (Operand.tmp 5))⟩,
               ⟨none, some 113, (Op.binOp BinOp.add 3 (Operand.tmp 112) (Operand.const (Value.int IntKind.i64 1)) 3)⟩,
               ⟨none, some 114, (Op.call ⟨(Callee.value (Operand.func 123)), #[(Operand.tmp 110), (Operand.tmp 111), (Operand.tmp 113)], #[23, 3, 3]⟩)⟩,
               ⟨none, some 115, (Op.nilCheck (Operand.tmp 106))⟩,
               ⟨none, some 116, (Op.fieldAddr 25 (Operand.tmp 115) 0)⟩,
               ⟨none, none, (Op.store 23 (Operand.tmp 116) (Operand.tmp 114))⟩])) (.seq (.reg [⟨none, some 118, (Op.binOp BinOp.eql 3 (Operand.tmp 44) (Operand.const (Value.int IntKind.i64 3)) 3)⟩,
               ⟨none, some 117, (Op.assign (Operand.tmp 118))⟩])
            (.cond (Operand.tmp 117) (.seq (.block 3 (.seq (.reg [⟨none, some 120, (Op.fieldAddr 27 (Operand.tmp 3) 3)⟩,
                   ⟨none, some 121, (Op.load 3 (Operand.tmp 120))⟩,
                   ⟨none, some 122, (Op.call ⟨(Callee.value (Operand.func 64)), #[(Operand.tmp 121)], #[3]⟩)⟩,
                   ⟨none, some 123, (Op.unOp UnOp.not 4 (Operand.tmp 122))⟩,
                   ⟨none, some 124, (Op.move (Operand.tmp 123))⟩,
                   ⟨some (124, false), some 125, (Op.fieldAddr 27 (Operand.tmp 3) 4)⟩,
                   ⟨some (124, false), some 126, (Op.load 9 (Operand.tmp 125))⟩,
                   ⟨some (124, false), some 127, (Op.call ⟨(Callee.builtin Builtin.len), #[(Operand.tmp 126)], #[9]⟩)⟩,
                   ⟨some (124, false), some 128, (Op.binOp BinOp.gtr 3 (Operand.tmp 127) (Operand.const (Value.int IntKind.i64 24)) 3)⟩,
                   ⟨none, some 129, (Op.pick (Operand.tmp 124) (Operand.const (Value.bool true)) (Operand.tmp 128))⟩,
                   ⟨none, some 119, (Op.assign (Operand.tmp 129))⟩])
                (.cond (Operand.tmp 119) (.seq (.reg [⟨none, some 4, (Op.assign (Operand.const (Value.int IntKind.i64 5)))⟩])
                  (.ret)) (.seq (.reg [⟨none, some 131, (Op.move (Operand.tmp 7))⟩,
                     ⟨none, some 132, (Op.nilCheck (Operand.tmp 131))⟩,
                     ⟨none, some 133, (Op.fieldAddr 35 (Operand.tmp 132) 1)⟩,
                     ⟨none, some 134, (Op.load 3 (Operand.tmp 133))⟩,
                     ⟨none, some 135, (Op.binOp BinOp.neq 3 (Operand.tmp 134) (Operand.const (Value.int IntKind.i64 1)) 3)⟩,
                     ⟨none, some 130, (Op.assign (Operand.tmp 135))⟩])
                  (.cond (Operand.tmp 130) (.seq (.reg [⟨none, some 4, (Op.assign (Operand.const (Value.int IntKind.i64 3)))⟩])
                    (.ret)) (.skip))))))
              (.draw [⟨⟨none, some 136, (Op.move (Operand.tmp 7))⟩, [], [], []⟩,
                 ⟨⟨none, some 137, (Op.fieldAddr 27 (Operand.tmp 3) 3)⟩, [], [], []⟩,
                 ⟨⟨none, some 138, (Op.load 3 (Operand.tmp 137))⟩, [3], [], []⟩,
                 ⟨⟨none, some 139, (Op.fieldAddr 27 (Operand.tmp 3) 4)⟩, [], [3], []⟩,
                 ⟨⟨none, some 140, (Op.load 9 (Operand.tmp 139))⟩, [3], [3], []⟩,
                 ⟨⟨none, some 141, (Op.nilCheck (Operand.tmp 136))⟩, [], [3], []⟩,
                 ⟨⟨none, some 142, (Op.fieldAddr 35 (Operand.tmp 141) 3)⟩, [], [3], []⟩,
                 ⟨⟨none, some 143, (Op.indexAddr 33 (Operand.tmp 142) (Operand.tmp 138))⟩, [], [], []⟩,
                 ⟨⟨none, none, (Op.store 9 (Operand.tmp 143) (Operand.tmp 140))⟩, [], [], []⟩])) (.seq (.seq (.reg [⟨none, some 145, (Op.binOp BinOp.eql 3 (Operand.tmp 44) (Operand.const (Value.int IntKind.i64 4)) 3)⟩,
                  ⟨none, some 144, (Op.assign (Operand.tmp 145))⟩])
               (.cond (Operand.tmp 144) (.skip) (.reg [⟨none, some 146, (Op.binOp BinOp.eql 3 (Operand.tmp 44) (Operand.const (Value.int IntKind.i64 5)) 3)⟩,
                   ⟨none, some 144, (Op.assign (Operand.tmp 146))⟩])))
              (.cond (Operand.tmp 144) (.seq (.reg [⟨none, some 8, (Op.assign (Operand.const (Value.int IntKind.i64 1)))⟩,
                   ⟨none, some 9, (Op.assign (Operand.const (Value.int IntKind.i64 2)))⟩])
                (.seq (.seq (.reg [⟨none, some 147, (Op.fieldAddr 27 (Operand.tmp 3) 0)⟩,
                     ⟨none, some 148, (Op.load 3 (Operand.tmp 147))⟩,
                     ⟨none, some 149, (Op.binOp BinOp.eql 3 (Operand.tmp 148) (Operand.const (Value.int IntKind.i64 5)) 3)⟩])
                  (.cond (Operand.tmp 149) (.reg [⟨none, some 150, (Op.move (Operand.tmp 9))⟩,
                      ⟨none, some 151, (Op.move (Operand.tmp 8))⟩,
                      ⟨none, some 8, (Op.assign (Operand.tmp 150))⟩,
                      ⟨none, some 9, (Op.assign (Operand.tmp 151))⟩]) (.skip)))
                 (.seq (.seq (.reg [⟨none, some 152, (Op.move (Operand.tmp 7))⟩,
                      ⟨none, some 153, (Op.nilCheck (Operand.tmp 152))⟩,
                      ⟨none, some 154, (Op.fieldAddr 35 (Operand.tmp 153) 1)⟩,
                      ⟨none, some 155, (Op.load 3 (Operand.tmp 154))⟩,
                      ⟨none, some 156, (Op.move (Operand.tmp 8))⟩,
                      ⟨none, some 157, (Op.binOp BinOp.neq 3 (Operand.tmp 155) (Operand.tmp 156) 3)⟩])
                   (.cond (Operand.tmp 157) (.seq (.reg [⟨none, some 4, (Op.assign (Operand.const (Value.int IntKind.i64 3)))⟩])
                     (.ret)) (.skip)))
                  (.seq (.draw [⟨⟨none, some 158, (Op.move (Operand.tmp 0))⟩, [], [], []⟩,
                      ⟨⟨none, some 159, (Op.fieldAddr 27 (Operand.tmp 3) 2)⟩, [], [], []⟩,
                      ⟨⟨none, some 160, (Op.load 9 (Operand.tmp 159))⟩, [3], [], []⟩,
                      ⟨⟨none, some 161, (Op.move (Operand.tmp 9))⟩, [], [3], []⟩,
                      ⟨⟨none, some 162, (Op.fieldAddr 27 (Operand.tmp 3) 1)⟩, [], [3], []⟩,
                      ⟨⟨none, some 163, (Op.load 9 (Operand.tmp 162))⟩, [3], [3], []⟩,
                      ⟨⟨none, some 164, (Op.move (Operand.tmp 7))⟩, [], [3], []⟩,
                      ⟨⟨none, some 165, (Op.nilCheck (Operand.tmp 164))⟩, [], [3], []⟩,
                      ⟨⟨none, some 166, (Op.fieldAddr 35 (Operand.tmp 165) 3)⟩, [], [3], []⟩,
                      ⟨⟨none, some 167, (Op.load 33 (Operand.tmp 166))⟩, [1001], [3], []⟩,
                      ⟨⟨none, some 168, (Op.build 35 #[(0, (Operand.tmp 160)), (1, (Operand.tmp 161)), (2, (Operand.tmp 163)), (3, (Operand.tmp 167))])⟩, [], [], []⟩,
                      ⟨⟨none, some 169, (Op.call ⟨(Callee.value (Operand.func 121)), #[(Operand.tmp 158), (Operand.tmp 168)], #[158, 35]⟩)⟩, [], [], []⟩,
                      ⟨⟨none, some 4, (Op.assign (Operand.tmp 169))⟩, [], [], []⟩])
                   (.ret))))) (.seq (.draw [⟨⟨none, some 46, (Op.move (Operand.tmp 0))⟩, [], [], []⟩,
                   ⟨⟨none, some 47, (Op.nilCheck (Operand.tmp 46))⟩, [], [], []⟩,
                   ⟨⟨none, some 48, (Op.load 25 (Operand.tmp 47))⟩, [1000], [], []⟩,
                   ⟨⟨none, some 49, (Op.fieldAddr 27 (Operand.tmp 3) 2)⟩, [], [1000], []⟩,
                   ⟨⟨none, some 50, (Op.load 9 (Operand.tmp 49))⟩, [3], [1000], []⟩,
                   ⟨⟨none, some 51, (Op.call ⟨(Callee.value (Operand.func 65)), #[(Operand.tmp 48), (Operand.tmp 50)], #[158, 9]⟩)⟩, [], [], []⟩,
                   ⟨⟨none, some 45, (Op.move (Operand.tmp 51))⟩, [], [], []⟩,
                   ⟨⟨none, some 52, (Op.extract (Operand.tmp 45) 0)⟩, [], [], []⟩,
                   ⟨⟨none, some 53, (Op.extract (Operand.tmp 45) 1)⟩, [], [], []⟩,
                   ⟨⟨none, some 10, (Op.assign (Operand.tmp 52))⟩, [], [], []⟩,
                   ⟨⟨none, some 11, (Op.assign (Operand.tmp 53))⟩, [], [], []⟩])
                (.seq (.block 2 (.seq (.reg [⟨none, some 55, (Op.move (Operand.tmp 11))⟩,
                      ⟨none, some 56, (Op.unOp UnOp.not 4 (Operand.tmp 55))⟩,
                      ⟨none, some 54, (Op.assign (Operand.tmp 56))⟩])
                   (.cond (Operand.tmp 54) (.seq (.reg [⟨none, some 4, (Op.assign (Operand.const (Value.int IntKind.i64 1)))⟩])
                     (.ret)) (.seq (.draw [⟨⟨none, some 58, (Op.move (Operand.tmp 7))⟩, [], [], []⟩,
                        ⟨⟨none, some 59, (Op.nilCheck (Operand.tmp 58))⟩, [], [], []⟩,
                        ⟨⟨none, some 60, (Op.fieldAddr 35 (Operand.tmp 59) 1)⟩, [], [], []⟩,
                        ⟨⟨none, some 61, (Op.load 3 (Operand.tmp 60))⟩, [1001], [], []⟩,
                        ⟨⟨none, some 62, (Op.binOp BinOp.neq 3 (Operand.tmp 61) (Operand.const (Value.int IntKind.i64 1)) 3)⟩, [], [], []⟩,
                        ⟨⟨none, some 63, (Op.move (Operand.tmp 62))⟩, [], [], []⟩,
                        ⟨⟨some (63, false), some 64, (Op.move (Operand.tmp 0))⟩, [], [], []⟩,
                        ⟨⟨some (63, false), some 65, (Op.nilCheck (Operand.tmp 64))⟩, [], [], []⟩,
                        ⟨⟨some (63, false), some 66, (Op.fieldAddr 25 (Operand.tmp 65) 0)⟩, [], [], []⟩,
                        ⟨⟨some (63, false), some 67, (Op.load 23 (Operand.tmp 66))⟩, [1000], [], []⟩,
                        ⟨⟨some (63, false), some 68, (Op.move (Operand.tmp 10))⟩, [], [1000], []⟩,
                        ⟨⟨some (63, false), some 69, (Op.indexAddr 23 (Operand.tmp 67) (Operand.tmp 68))⟩, [1001], [], []⟩,
                        ⟨⟨some (63, false), some 70, (Op.fieldAddr 35 (Operand.tmp 69) 1)⟩, [], [], []⟩,
                        ⟨⟨some (63, false), some 71, (Op.load 3 (Operand.tmp 70))⟩, [1001], [], []⟩,
                        ⟨⟨some (63, false), some 72, (Op.binOp BinOp.neq 3 (Operand.tmp 71) (Operand.const (Value.int IntKind.i64 2)) 3)⟩, [], [], []⟩,
                        ⟨⟨none, some 73, (Op.pick (Operand.tmp 63) (Operand.const (Value.bool true)) (Operand.tmp 72))⟩, [], [], []⟩,
                        ⟨⟨none, some 74, (Op.move (Operand.tmp 73))⟩, [], [], []⟩,
                        ⟨⟨some (74, false), some 75, (Op.move (Operand.tmp 0))⟩, [], [], []⟩,
                        ⟨⟨some (74, false), some 76, (Op.nilCheck (Operand.tmp 75))⟩, [], [], []⟩,
                        ⟨⟨some (74, false), some 77, (Op.fieldAddr 25 (Operand.tmp 76) 0)⟩, [], [], []⟩,
                        ⟨⟨some (74, false), some 78, (Op.load 23 (Operand.tmp 77))⟩, [1000], [], []⟩,
                        ⟨⟨some (74, false), some 79, (Op.move (Operand.tmp 10))⟩, [], [1000], []⟩,
                        ⟨⟨some (74, false), some 80, (Op.indexAddr 23 (Operand.tmp 78) (Operand.tmp 79))⟩, [1001], [], []⟩,
                        ⟨⟨some (74, false), some 81, (Op.fieldAddr 35 (Operand.tmp 80) 2)⟩, [], [], []⟩,
                        ⟨⟨some (74, false), some 82, (Op.load 9 (Operand.tmp 81))⟩, [1001], [], []⟩,
                        ⟨⟨some (74, false), some 83, (Op.fieldAddr 27 (Operand.tmp 3) 1)⟩, [], [1000, 1001], []⟩,
                        ⟨⟨some (74, false), some 84, (Op.load 9 (Operand.tmp 83))⟩, [3], [1000, 1001], []⟩,
                        ⟨⟨some (74, false), some 85, (Op.binOp BinOp.neq 9 (Operand.tmp 82) (Operand.tmp 84) 9)⟩, [], [], []⟩,
                        ⟨⟨none, some 86, (Op.pick (Operand.tmp 74) (Operand.const (Value.bool true)) (Operand.tmp 85))⟩, [], [], []⟩,
                        ⟨⟨none, some 57, (Op.assign (Operand.tmp 86))⟩, [], [], []⟩])
                     (.cond (Operand.tmp 57) (.seq (.reg [⟨none, some 4, (Op.assign (Operand.const (Value.int IntKind.i64 3)))⟩])
                       (.ret)) (.skip))))))
                 (.reg [⟨none, some 87, (Op.move (Operand.tmp 7))⟩,
                    ⟨none, some 88, (Op.move (Operand.tmp 0))⟩,
                    ⟨none, some 89, (Op.nilCheck (Operand.tmp 88))⟩,
                    ⟨none, some 90, (Op.fieldAddr 25 (Operand.tmp 89) 0)⟩,
                    ⟨none, some 91, (Op.load 23 (Operand.tmp 90))⟩,
                    ⟨none, some 92, (Op.move (Operand.tmp 10))⟩,
                    ⟨none, some 93, (Op.indexAddr 23 (Operand.tmp 91) (Operand.tmp 92))⟩,
                    ⟨none, some 94, (Op.fieldAddr 35 (Operand.tmp 93) 3)⟩,
                    ⟨none, some 95, (Op.load 33 (Operand.tmp 94))⟩,
                    ⟨none, some 96, (Op.nilCheck (Operand.tmp 87))⟩,
                    ⟨none, some 97, (Op.fieldAddr 35 (Operand.tmp 96) 3)⟩,
                    ⟨none, none, (Op.store 33 (Operand.tmp 97) (Operand.tmp 95))⟩])))))))))))
       (.seq (.reg [⟨none, some 4, (Op.assign (Operand.const (Value.int IntKind.i64 0)))⟩])
        (.ret)))))))
theorem vc59 {args : List AV} {L : List (Nat × Ob)} {R : AV → List (Nat × Ob) → Prop} (ha : args.length ≤ 170) (hL : (L.map (·.1)).Nodup)
    (h : ev Go.Proofs.Tryd.prog ⟨170, L.map (·.1)⟩ ac59 (retQ Go.Proofs.Tryd.prog [(ResultVar.tmp 4)] R) ⟨argT args, hpOf L, Us.of (L.map (·.1))⟩) : ACall Go.Proofs.Tryd.prog 59 args L R :=
  acallA (by kernel_rfl) 170 [(3, [⟨0, [], [], [], [1, 2, 5, 6, 7, 8, 9, 10]⟩, ⟨1, [], [], [], [2, 5, 6, 7, 8, 9, 10]⟩, ⟨2, [1000], [], [], [5, 6, 7, 8, 9, 10]⟩, ⟨3, [], [1000], [], [4, 5, 6, 7, 8, 9, 10]⟩, ⟨4, [3], [1000], [], [5, 6, 7, 8, 9, 10]⟩, ⟨5, [], [], [], [6, 7, 8, 9, 10]⟩, ⟨6, [], [], [], [7, 8, 9, 10]⟩, ⟨7, [], [], [], [9, 10]⟩, ⟨8, [], [], [], [10]⟩, ⟨9, [], [], [], [10]⟩, ⟨10, [], [], [], []⟩]), (25, [⟨0, [], [], [], [5, 6, 7, 8]⟩, ⟨1, [], [], [], [2, 7, 8]⟩, ⟨2, [3], [], [], [7, 8]⟩, ⟨3, [], [3], [], [4, 7, 8]⟩, ⟨4, [3], [3], [], [7, 8]⟩, ⟨5, [], [3], [], [6, 7, 8]⟩, ⟨6, [], [3], [], [7, 8]⟩, ⟨7, [], [], [], [8]⟩, ⟨8, [], [], [], []⟩]), (33, [⟨0, [], [], [], [11, 12]⟩, ⟨1, [], [], [], [2, 10, 11, 12]⟩, ⟨2, [3], [], [], [10, 11, 12]⟩, ⟨3, [], [3], [], [10, 11, 12]⟩, ⟨4, [], [3], [], [5, 10, 11, 12]⟩, ⟨5, [3], [3], [], [10, 11, 12]⟩, ⟨6, [], [3], [], [7, 8, 9, 10, 11, 12]⟩, ⟨7, [], [3], [], [8, 9, 10, 11, 12]⟩, ⟨8, [], [3], [], [9, 10, 11, 12]⟩, ⟨9, [1001], [3], [], [10, 11, 12]⟩, ⟨10, [], [], [], [11, 12]⟩, ⟨11, [], [], [], [12]⟩, ⟨12, [], [], [], []⟩]), (10, [⟨0, [], [], [], [1, 2, 5, 6, 7, 8, 9, 10]⟩, ⟨1, [], [], [], [2, 5, 6, 7, 8, 9, 10]⟩, ⟨2, [1000], [], [], [5, 6, 7, 8, 9, 10]⟩, ⟨3, [], [1000], [], [4, 5, 6, 7, 8, 9, 10]⟩, ⟨4, [3], [1000], [], [5, 6, 7, 8, 9, 10]⟩, ⟨5, [], [], [], [6, 7, 8, 9, 10]⟩, ⟨6, [], [], [], [7, 8, 9, 10]⟩, ⟨7, [], [], [], [9, 10]⟩, ⟨8, [], [], [], [10]⟩, ⟨9, [], [], [], [10]⟩, ⟨10, [], [], [], []⟩]), (13, [⟨0, [], [], [], [1, 2, 3, 4, 5, 6, 7, 8, 9, 10, 11, 12, 13, 14, 15, 16, 17, 18, 19, 20, 21, 22, 23, 24, 25, 26, 27, 28, 29]⟩, ⟨1, [], [], [], [2, 3, 4, 5, 6, 7, 8, 9, 10, 11, 12, 13, 14, 15, 16, 17, 18, 19, 20, 21, 22, 23, 24, 25, 26, 27, 28, 29]⟩, ⟨2, [], [], [], [3, 4, 5, 6, 7, 8, 9, 10, 11, 12, 13, 14, 15, 16, 17, 18, 19, 20, 21, 22, 23, 24, 25, 26, 27, 28, 29]⟩, ⟨3, [1001], [], [], [4, 5, 6, 7, 8, 9, 10, 11, 12, 13, 14, 15, 16, 17, 18, 19, 20, 21, 22, 23, 24, 25, 26, 27, 28, 29]⟩, ⟨4, [], [], [], [5, 6, 7, 8, 9, 10, 11, 12, 13, 14, 15, 16, 17, 18, 19, 20, 21, 22, 23, 24, 25, 26, 27, 28, 29]⟩, ⟨5, [], [], [], [6, 7, 8, 9, 10, 11, 12, 13, 14, 15, 16, 17, 18, 19, 20, 21, 22, 23, 24, 25, 26, 27, 28, 29]⟩, ⟨6, [], [], [], [7, 8, 9, 11, 12, 13, 14, 15, 16, 17, 18, 19, 20, 21, 22, 23, 24, 25, 26, 27, 28, 29]⟩, ⟨7, [], [], [], [8, 9, 11, 12, 13, 14, 15, 16, 17, 18, 19, 20, 21, 22, 23, 24, 25, 26, 27, 28, 29]⟩, ⟨8, [], [], [], [9, 11, 12, 13, 14, 15, 16, 17, 18, 19, 20, 21, 22, 23, 24, 25, 26, 27, 28, 29]⟩, ⟨9, [1000], [], [], [11, 12, 13, 14, 15, 16, 17, 18, 19, 20, 21, 22, 23, 24, 25, 26, 27, 28, 29]⟩, ⟨10, [], [1000], [], [11, 12, 13, 14, 15, 16, 17, 18, 19, 20, 21, 22, 23, 24, 25, 26, 27, 28, 29]⟩, ⟨11, [1001], [], [], [12, 13, 14, 15, 16, 17, 18, 19, 20, 21, 22, 23, 24, 25, 26, 27, 28, 29]⟩, ⟨12, [], [], [], [13, 14, 15, 16, 17, 18, 19, 20, 21, 22, 23, 24, 25, 26, 27, 28, 29]⟩, ⟨13, [1001], [], [], [14, 15, 16, 17, 18, 19, 20, 21, 22, 23, 24, 25, 26, 27, 28, 29]⟩, ⟨14, [], [], [], [15, 16, 17, 18, 19, 20, 21, 22, 23, 24, 25, 26, 27, 28, 29]⟩, ⟨15, [], [], [], [16, 17, 18, 19, 20, 21, 22, 23, 24, 25, 26, 27, 28, 29]⟩, ⟨16, [], [], [], [17, 18, 19, 20, 21, 22, 23, 24, 25, 26, 27, 28, 29]⟩, ⟨17, [], [], [], [18, 19, 20, 22, 23, 24, 27, 28, 29]⟩, ⟨18, [], [], [], [19, 20, 22, 23, 24, 27, 28, 29]⟩, ⟨19, [], [], [], [20, 22, 23, 24, 27, 28, 29]⟩, ⟨20, [1000], [], [], [22, 23, 24, 27, 28, 29]⟩, ⟨21, [], [1000], [], [22, 23, 24, 27, 28, 29]⟩, ⟨22, [1001], [], [], [23, 24, 27, 28, 29]⟩, ⟨23, [], [], [], [24, 27, 28, 29]⟩, ⟨24, [1001], [], [], [27, 28, 29]⟩, ⟨25, [], [1000, 1001], [], [26, 27, 28, 29]⟩, ⟨26, [3], [1000, 1001], [], [27, 28, 29]⟩, ⟨27, [], [], [], [28, 29]⟩, ⟨28, [], [], [], [29]⟩, ⟨29, [], [], [], []⟩])] [(ResultVar.tmp 4)] Go.Proofs.Tryd.func59 (by kernel_rfl) Go.Proofs.Tryd.ntmps59 (by kernel_rfl) ha hL (va_of_ev _ h)
theorem en59 : enters Go.Proofs.Tryd.prog 59 = true := by kernel_rfl
end Go.Av.F
end
section
namespace Go.Av.F
open Go Go.Av
set_option linter.unusedSimpArgs false
set_option linter.unusedVariables false
attribute [local simp] tt3 tt4 tt9 tt5 tt22
def lowB (c : UInt8) : Bool := !(decide (c < 97) || decide (97 + 25 < c))
def nameB (s : List UInt8) : Bool := s.all lowB && decide (0 < s.length) && decide (s.length ≤ 6)
theorem all_take_succ {α : Type} (p : α → Bool) (l : List α) (i : Nat) (x : α) (h : l[i]? = some x) : (l.take (i + 1)).all p = ((l.take i).all p && p x) := by
  rw [List.take_add_one, h]; simp
theorem bookName (s : List UInt8) (hs : s.length < 4611686018427387904) : ACall Go.Proofs.Tryd.prog 62 [.str s] [] (fun r L' => r = .bool (nameB s) ∧ L' = []) := by
  apply vc62 (by simp) (by simp)
  simp [ac62]
  refine ev_loopX (X := Nat) [0, 2, 3] (fun i => ⟨mkT [(0, .str s), (2, .bool false), (3, .int .i64 i)], hpOf [], Us.of []⟩) (fun i => s.length - i) (fun i => i ≤ s.length ∧ (s.take i).all lowB = true) 0 ⟨by simp, [], by simp [canonOk], by simp [canon]⟩ ?_
  rintro i ⟨hi, ha⟩
  simp only [ac62_l0]
  by_cases h1 : i < s.length
  · obtain ⟨x, e0⟩ : ∃ x, s[i] = x := ⟨_, rfl⟩
    have e1 : s[i]? = some x := by rw [← e0]; exact List.getElem?_eq_getElem h1
    have e2 : IntKind.i64.wrap ((i:Int) + 1) = ((i+1 : Nat) : Int) := by rw [i64_in' _ (by omega)]; omega
    have hbad : lowB x = false → nameB s = false := fun hx => by
      have hm : x ∈ s := List.mem_of_getElem? e1
      have : s.all lowB = false := by rw [List.all_eq_false]; exact ⟨x, hm, by simp [hx]⟩
      simp [nameB, this]
    simp [h1, e0, e1, e2]
    refine ⟨fun h2 => ⟨fun h3 => hbad ?_, fun h3 => nextX_of (i + 1) (by omega) ⟨by omega, ?_⟩ [] (by simp [canonOk]) (by simp [canon])⟩, fun h2 => hbad ?_⟩
    · simp [lowB, UInt8.lt_iff_toNat_lt]; omega
    · have := all_take_succ lowB s i x e1
      rw [ha] at this
      have hx : lowB x = true := by simp [lowB, UInt8.lt_iff_toNat_lt]; omega
      rw [hx] at this
      simpa using this
    · simp [lowB, UInt8.lt_iff_toNat_lt]; omega
  · have hi' : i = s.length := by omega
    subst hi'
    rw [List.take_length] at ha
    simp [h1]
    refine ⟨fun h => ?_, fun h => ?_⟩
    · simp [nameB, ha, h]; omega
    · subst h; simp [nameB]
end Go.Av.F
end
section
namespace Go.Av.F
open Go Go.Av
set_option linter.unusedSimpArgs false
set_option linter.unusedVariables false
set_option maxRecDepth 100000
attribute [local simp] tt3 tt4 tt9 tt5 tt22 tt150
theorem fol : Go.Proofs.Tryd.prog.follows .mixedOrders = true := by kernel_rfl
attribute [simp] fol
def u8row (c : UInt8) : List AV := [.int .u8 c.toNat]
def rdOb (bs : List UInt8) (p : Int) : Ob := ⟨2, [[.lst 1 (bs.map u8row), .int .i64 p]]⟩
attribute [local simp] rdOb
end Go.Av.F
end
section
namespace Go.Av.F
open Go Go.Av
set_option linter.unusedSimpArgs false
set_option linter.unusedVariables false
set_option maxRecDepth 100000
attribute [local simp] tt3 tt4 tt9 tt5 tt22 tt150 tt54 tt42
attribute [simp] en116 en117 en115 en55
def strRow (s : List UInt8) : List AV := [.str s]
theorem clR_str (ls : List (List UInt8)) : clR (ls.map strRow) = true := by simp [clR, strRow]
theorem ren_rdOb (ρ : Nat → Option Plc) (bs : List UInt8) (p : Int) : renOb ρ (rdOb bs p) = rdOb bs p := by simp [renOb, rdOb, renL, ren]
theorem rd_mt (hv : Hp) (ids : List Nat) (ρ : Nat → Option Plc) (bs : List UInt8) (p : Int) : rowsMt hv ids ρ (rdOb bs p).els (rdOb bs p).els := .inl ⟨rfl, by simp [rdOb, clR]⟩
@[simp] theorem rdOb_sz (bs : List UInt8) (p : Int) : (rdOb bs p).sz = 2 := rfl
attribute [simp] clR_str ren_rdOb rd_mt
end Go.Av.F
end
section
namespace Go.Av.F
open Go Go.Av
set_option linter.unusedSimpArgs false
set_option linter.unusedVariables false
set_option maxRecDepth 100000
attribute [local simp] tt3 tt4 tt9 tt5 tt22 tt25 tt23 tt35 tt33
structure BS where
  name : List UInt8
  kind : Int
  frm : List UInt8
  bl : List (List UInt8)
deriving DecidableEq, Inhabited
def BS.row (b : BS) : List AV := .str b.name :: .int .i64 b.kind :: .str b.frm :: b.bl.map .str
def atP (bs : List BS) (name : List UInt8) : Nat := (bs.takeWhile fun b => Op.bytesLess b.name name).length
def atB (bs : List BS) (name : List UInt8) : Bool := match bs[atP bs name]? with
  | some b => b.name == name
  | none => false
def bk (bs : List BS) : AV := .agg [.lst 11 (bs.map BS.row)]
theorem takeWhile_step {α : Type} (p : α → Bool) : ∀ (l : List α) (i : Nat) (x : α), (∀ j, j < i → ∀ y, l[j]? = some y → p y = true) → l[i]? = some x → i ≤ (l.takeWhile p).length ∧ (p x = false → (l.takeWhile p).length = i)
  | [], i, x, h, hx => by simp at hx
  | a :: r, 0, x, h, hx => by
    simp only [List.getElem?_cons_zero, Option.some.injEq] at hx
    subst hx
    refine ⟨by omega, fun hp => by simp [List.takeWhile, hp]⟩
  | a :: r, i + 1, x, h, hx => by
    have ha : p a = true := h 0 (by omega) a (by simp)
    obtain ⟨h1, h2⟩ := takeWhile_step p r i x (fun j hj y hy => h (j + 1) (by omega) y (by simpa using hy)) (by simpa using hx)
    refine ⟨by simp [List.takeWhile, ha]; omega, fun hp => by simp [List.takeWhile, ha, h2 hp]⟩
theorem takeWhile_all {α : Type} (p : α → Bool) : ∀ (l : List α), (∀ x ∈ l, p x = true) → l.takeWhile p = l
  | [], _ => rfl
  | a :: r, h => by simp [List.takeWhile, h a (by simp)]; exact takeWhile_all p r fun x hx => h x (by simp [hx])
theorem atC (bs : List BS) (name : List UInt8) (hl : bs.length < 2000000) : ACall Go.Proofs.Tryd.prog 125 [bk bs, .str name] [] (fun r L' => r = .tup [.int .i64 (atP bs name), .bool (atB bs name)] ∧ L' = []) := by
  apply vc125 (by simp) (by simp)
  simp [ac125, bk]
  refine ev_loopX (X := Nat) [1, 2, 6] (fun i => ⟨mkT [(1, .str name), (2, .ptr 2 0 0), (6, .int .i64 i)], hpOf [(2, ⟨1, [[.lst 11 (bs.map BS.row)]]⟩)], Us.of [2]⟩) (fun i => bs.length - i) (fun i => i ≤ bs.length ∧ ∀ j, j < i → ∀ y, bs[j]? = some y → Op.bytesLess y.name name = true) 0 ⟨by simp, [(2, 2)], by simp [canonOk], by simp [canon, obOf]⟩ ?_
  rintro i ⟨hi, ha⟩
  simp only [ac125_l0]
  by_cases h1 : i < bs.length
  · obtain ⟨b, e0⟩ : ∃ b, bs[i] = b := ⟨_, rfl⟩
    have e1 : bs[i]? = some b := by rw [← e0]; exact List.getElem?_eq_getElem h1
    have e2 : IntKind.i64.wrap ((i : Int) + 1) = ((i + 1 : Nat) : Int) := by rw [i64_in' _ (by omega)]; omega
    have ht := takeWhile_step (fun b : BS => Op.bytesLess b.name name) bs i b (fun j hj y hy => by simpa using ha j hj y hy) e1
    cases h2 : Op.bytesLess b.name name with
    | true =>
      simp [h1, e0, e1, BS.row, h2, e2]
      refine nextX_of (i + 1) (by omega) ⟨by omega, fun j hj y hy => ?_⟩ [(2, 2)] (by simp [canonOk]) (by simp [canon, obOf])
      by_cases hji : j = i
      · subst hji; rw [e1] at hy; injection hy with hy; subst hy; exact h2
      · exact ha j (by omega) y hy
    | false =>
      have ep : atP bs name = i := ht.2 (by simpa using h2)
      simp [h1, e0, e1, BS.row, h2, ep, atB]
  · have hi' : i = bs.length := by omega
    have ep : atP bs name = bs.length := by
      unfold atP
      rw [takeWhile_all _ _ (fun b hb => by
        obtain ⟨j, hj, e⟩ := List.mem_iff_getElem.1 hb
        have := ha j (by omega) b (by rw [← e]; exact List.getElem?_eq_getElem hj)
        simpa using this)]
    subst hi'
    simp [h1, ep, atB]
end Go.Av.F
end
section
namespace Go.Av.F
open Go Go.Av
set_option linter.unusedSimpArgs false
set_option linter.unusedVariables false
set_option maxRecDepth 100000
attribute [local simp] tt3 tt4 tt9 tt5 tt22 tt25 tt23 tt35 tt33
@[simp] theorem row0 (b : BS) : (BS.row b)[0]? = some (.str b.name) := rfl
@[simp] theorem row1 (b : BS) : (BS.row b)[1]? = some (.int .i64 b.kind) := rfl
@[simp] theorem row2 (b : BS) : (BS.row b)[2]? = some (.str b.frm) := rfl
@[simp] theorem row0' (b : BS) (h : 0 < (BS.row b).length) : (BS.row b)[0]'h = .str b.name := rfl
@[simp] theorem row1' (b : BS) (h : 1 < (BS.row b).length) : (BS.row b)[1]'h = .int .i64 b.kind := rfl
@[simp] theorem row2' (b : BS) (h : 2 < (BS.row b).length) : (BS.row b)[2]'h = .str b.frm := rfl
@[simp] theorem row3 (b : BS) : (BS.row b).drop 3 = b.bl.map .str := rfl
theorem row_len (b : BS) (h : b.bl.length = 8) : (BS.row b).length = 11 := by simp [BS.row, h]
theorem row_take (b : BS) (h : b.bl.length = 8) : (BS.row b).take 11 = BS.row b := List.take_of_length_le (by rw [row_len b h]; omega)
theorem row_drop (b : BS) (h : b.bl.length = 8) : (BS.row b).drop 11 = [] := List.drop_of_length_le (by rw [row_len b h]; omega)
theorem row_cl (b : BS) : clL (BS.row b) = true := by
  have : ∀ l : List (List UInt8), clL (l.map .str) = true := fun l => by induction l <;> simp_all
  simp [BS.row, this]
theorem row_one (b : BS) : (BS.row b).all oneA = true := by simp [BS.row, oneA]
theorem row_ren (ρ : Nat → Option Plc) (b : BS) : renL ρ (BS.row b) = BS.row b := by
  have : ∀ l : List (List UInt8), renL ρ (l.map .str) = l.map .str := fun l => by induction l <;> simp_all
  simp [BS.row, this]
@[simp] theorem row_ren' (ρ : Nat → Option Plc) (b : BS) : renL ρ (BS.row b) = BS.row b := row_ren ρ b
@[simp] theorem row_cl' (b : BS) : clL (BS.row b) = true := row_cl b
theorem row_all (b : BS) : ∀ x ∈ BS.row b, oneA x = true := fun x hx => List.all_eq_true.1 (row_one b) x hx
def roots (bs : List BS) : Nat → BS → Bool
  | 0, _ => false
  | n + 1, s => if s.frm = [] then s.kind == 1 else
      match bs[atP bs s.frm]? with
      | some t => if atB bs s.frm = true ∧ t.kind ≠ s.kind then roots bs n t else false
      | none => false
theorem rootsC (bs : List BS) (s : BS) (hl : bs.length < 2000000) (hB : ∀ b ∈ bs, b.bl.length = 8) (hs : s.bl.length = 8) : ACall Go.Proofs.Tryd.prog 63 [bk bs, .agg (BS.row s)] [] (fun r L' => r = .bool (roots bs (bs.length + 1) s) ∧ L' = []) := by
  obtain ⟨res, hres⟩ : ∃ res, roots bs (bs.length + 1) s = res := ⟨_, rfl⟩
  rw [hres]
  apply vc63 (by simp) (by simp)
  simp [ac63, bk, row_len _ hs]
  refine ev_loopX (X := Nat × BS) [2, 3, 5] (fun x => ⟨mkT [(2, .ptr 2 0 0), (3, .ptr 3 0 0), (5, .int .i64 x.1)], hpOf [(2, ⟨1, [[.lst 11 (bs.map BS.row)]]⟩), (3, ⟨11, [BS.row x.2]⟩)], Us.of [2, 3]⟩) (fun x => bs.length + 1 - x.1)
    (fun x => x.1 ≤ bs.length + 1 ∧ x.2.bl.length = 8 ∧ res = roots bs (bs.length + 1 - x.1) x.2) (0, s) ⟨⟨by simp, hs, hres.symm⟩, [(2, 2), (3, 3)], by simp [canonOk], by simp [canon, obOf]⟩ ?_
  rintro ⟨i, t⟩ ⟨hi, ht, he⟩
  simp only at hi ht he
  simp only [ac63_l0]
  by_cases h1 : i ≤ bs.length
  · obtain ⟨n, hn⟩ : ∃ n, bs.length + 1 - i = n + 1 := ⟨bs.length - i, by omega⟩
    have e2 : IntKind.i64.wrap ((i : Int) + 1) = ((i + 1 : Nat) : Int) := by rw [i64_in' _ (by omega)]; omega
    rw [hn] at he
    by_cases h2 : t.frm = []
    · simp [h1, h2, he, roots]
    · simp [h1, h2]
      refine callA_val en125 (atC bs t.frm hl) (by simp [bk]) (by simp) ?_
      cases h3 : atB bs t.frm with
      | false =>
        have : res = false := by
          rw [he]; simp only [roots, h2, if_false, h3]
          split <;> simp
        simp [this]
      | true =>
        obtain ⟨u, e1⟩ : ∃ u, bs[atP bs t.frm]? = some u := by
          unfold atB at h3
          split at h3
          · rename_i u hu; exact ⟨u, hu⟩
          · cases h3
        have hlt : atP bs t.frm < bs.length := (List.getElem?_eq_some_iff.1 e1).1
        have hu : u.bl.length = 8 := hB u (List.mem_of_getElem? e1)
        obtain ⟨m, hm⟩ : ∃ m, atP bs t.frm = m := ⟨_, rfl⟩
        rw [hm] at e1 hlt
        have e0 : bs[m] = u := by rw [List.getElem?_eq_getElem hlt] at e1; injection e1
        by_cases h4 : u.kind = t.kind
        · have : res = false := by
            rw [he]; simp [roots, h2, h3, hm, e1, h4]
          simp [hm, hlt, e0, e1, h4, this, row_len _ hu, row_len _ ht]
        · have e5 : res = roots bs n u := by
            rw [he]; simp [roots, h2, h3, hm, e1, h4]
          simp [hm, hlt, e0, e1, h4, row_len _ hu, row_len _ ht, row_take _ hu, row_drop _ ht, row_all, e2]
          refine ⟨row_all u, ?_⟩
          refine nextX_of (i + 1, u) (by simp only; omega) ⟨by simp only; omega, hu, ?_⟩ [(2, 2), (3, 3)] (by simp [canonOk]) (by simp [canon, obOf])
          simp only; rw [e5]; congr 1; omega
  · have : res = false := by rw [he, show bs.length + 1 - i = 0 by omega]; rfl
    simp [h1, this]
end Go.Av.F
end
