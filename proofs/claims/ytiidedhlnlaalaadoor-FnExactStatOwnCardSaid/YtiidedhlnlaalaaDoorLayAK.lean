/- Lemmas for the proof, no statement of the seat; no conditions. -/
import Derived.Test.YtiidedhlnlaalaaDoorLayAJ
import Derived.Test.YtiidedhlnlaalaaDoorProg
section
namespace Go.Av.F
open Go Go.Av
set_option maxRecDepth 100000
set_option linter.constructorNameAsVariable false
def ac29 : ACode :=
  .seq (.reg [⟨none, some 2, (Op.box 56 (Operand.tmp 0))⟩,
     ⟨none, some 4, (Op.assign (Operand.const (Value.int IntKind.i64 0)))⟩])
  (.seq (.reg [⟨none, some 5, (Op.fieldAddr 56 (Operand.tmp 2) 1)⟩,
      ⟨none, some 6, (Op.load 51 (Operand.tmp 5))⟩,
      ⟨none, some 7, (Op.move (Operand.tmp 1))⟩,
      ⟨none, some 8, (Op.call ⟨(Callee.value (Operand.func 78)), #[(Operand.tmp 6), (Operand.tmp 7)], #[51, 3]⟩)⟩,
      ⟨none, some 1, (Op.assign (Operand.tmp 8))⟩])
   (.seq (.seq (.reg [⟨none, some 9, (Op.move (Operand.tmp 1))⟩,
        ⟨none, some 10, (Op.binOp BinOp.lss 3 (Operand.tmp 9) (Operand.const (Value.int IntKind.i64 0)) 3)⟩])
     (.cond (Operand.tmp 10) (.seq (.reg [⟨none, some 4, (Op.assign (Operand.const (Value.int IntKind.i64 (-1))))⟩])
       (.ret)) (.skip)))
    (.seq (.reg [⟨none, some 11, (Op.fieldAddr 56 (Operand.tmp 2) 2)⟩,
        ⟨none, some 12, (Op.load 52 (Operand.tmp 11))⟩,
        ⟨none, some 13, (Op.move (Operand.tmp 1))⟩,
        ⟨none, some 14, (Op.call ⟨(Callee.value (Operand.func 79)), #[(Operand.tmp 12), (Operand.tmp 13)], #[52, 3]⟩)⟩,
        ⟨none, some 1, (Op.assign (Operand.tmp 14))⟩])
     (.seq (.seq (.reg [⟨none, some 15, (Op.move (Operand.tmp 1))⟩,
          ⟨none, some 16, (Op.binOp BinOp.lss 3 (Operand.tmp 15) (Operand.const (Value.int IntKind.i64 0)) 3)⟩])
       (.cond (Operand.tmp 16) (.seq (.reg [⟨none, some 4, (Op.assign (Operand.const (Value.int IntKind.i64 (-1))))⟩])
         (.ret)) (.skip)))
      (.seq (.reg [⟨none, some 17, (Op.fieldAddr 56 (Operand.tmp 2) 3)⟩,
          ⟨none, some 18, (Op.load 53 (Operand.tmp 17))⟩,
          ⟨none, some 19, (Op.move (Operand.tmp 1))⟩,
          ⟨none, some 20, (Op.call ⟨(Callee.value (Operand.func 80)), #[(Operand.tmp 18), (Operand.tmp 19)], #[53, 3]⟩)⟩,
          ⟨none, some 1, (Op.assign (Operand.tmp 20))⟩])
       (.seq (.seq (.reg [⟨none, some 21, (Op.move (Operand.tmp 1))⟩,
            ⟨none, some 22, (Op.binOp BinOp.lss 3 (Operand.tmp 21) (Operand.const (Value.int IntKind.i64 0)) 3)⟩])
         (.cond (Operand.tmp 22) (.seq (.reg [⟨none, some 4, (Op.assign (Operand.const (Value.int IntKind.i64 (-1))))⟩])
           (.ret)) (.skip)))
        (.seq (.reg [⟨none, some 23, (Op.fieldAddr 56 (Operand.tmp 2) 5)⟩,
            ⟨none, some 24, (Op.load 54 (Operand.tmp 23))⟩,
            ⟨none, some 25, (Op.move (Operand.tmp 1))⟩,
            ⟨none, some 26, (Op.call ⟨(Callee.value (Operand.func 81)), #[(Operand.tmp 24), (Operand.tmp 25)], #[54, 3]⟩)⟩,
            ⟨none, some 1, (Op.assign (Operand.tmp 26))⟩])
         (.seq (.seq (.reg [⟨none, some 27, (Op.move (Operand.tmp 1))⟩,
              ⟨none, some 28, (Op.binOp BinOp.lss 3 (Operand.tmp 27) (Operand.const (Value.int IntKind.i64 0)) 3)⟩])
           (.cond (Operand.tmp 28) (.seq (.reg [⟨none, some 4, (Op.assign (Operand.const (Value.int IntKind.i64 (-1))))⟩])
             (.ret)) (.skip)))
          (.seq (.reg [⟨none, some 29, (Op.move (Operand.tmp 1))⟩,
              ⟨none, some 4, (Op.assign (Operand.tmp 29))⟩])
           (.ret))))))))))
theorem vc29 {args : List AV} {L : List (Nat × Ob)} {R : AV → List (Nat × Ob) → Prop} (ha : args.length ≤ 30) (hL : (L.map (·.1)).Nodup)
    (h : ev Go.Proofs.Tryd.prog ⟨30, L.map (·.1)⟩ ac29 (retQ Go.Proofs.Tryd.prog [(ResultVar.tmp 4)] R) ⟨argT args, hpOf L, Us.of (L.map (·.1))⟩) : ACall Go.Proofs.Tryd.prog 29 args L R :=
  acallA (by kernel_rfl) 30 [] [(ResultVar.tmp 4)] Go.Proofs.Tryd.func29 (by kernel_rfl) Go.Proofs.Tryd.ntmps29 (by kernel_rfl) ha hL (va_of_ev _ h)
def ac78_l0 : ACode :=
  .seq (.seq (.reg [⟨none, some 12, (Op.move (Operand.tmp 5))⟩,
      ⟨none, some 13, (Op.move (Operand.tmp 0))⟩,
      ⟨none, some 14, (Op.call ⟨(Callee.builtin Builtin.len), #[(Operand.tmp 13)], #[51]⟩)⟩,
      ⟨none, some 15, (Op.binOp BinOp.lss 3 (Operand.tmp 12) (Operand.tmp 14) 3)⟩])
   (.cond (Operand.tmp 15) (.skip) (.exit 0)))
  (.seq (.block 1 (.seq (.reg [⟨none, some 18, (Op.move (Operand.tmp 0))⟩,
        ⟨none, some 19, (Op.move (Operand.tmp 5))⟩,
        ⟨none, some 20, (Op.indexAddr 51 (Operand.tmp 18) (Operand.tmp 19))⟩,
        ⟨none, some 21, (Op.load 177 (Operand.tmp 20))⟩,
        ⟨none, some 22, (Op.move (Operand.tmp 1))⟩,
        ⟨none, some 23, (Op.call ⟨(Callee.value (Operand.func 136)), #[(Operand.tmp 21), (Operand.tmp 22)], #[177, 3]⟩)⟩,
        ⟨none, some 1, (Op.assign (Operand.tmp 23))⟩])
     (.seq (.reg [⟨none, some 24, (Op.move (Operand.tmp 1))⟩,
         ⟨none, some 25, (Op.binOp BinOp.lss 3 (Operand.tmp 24) (Operand.const (Value.int IntKind.i64 0)) 3)⟩])
      (.cond (Operand.tmp 25) (.seq (.reg [⟨none, some 4, (Op.assign (Operand.const (Value.int IntKind.i64 (-1))))⟩])
        (.ret)) (.skip)))))
   (.reg [⟨none, some 16, (Op.move (Operand.tmp 5))⟩,
      ⟨none, some 17, (Op.binOp BinOp.add 3 (Operand.tmp 16) (Operand.const (Value.int IntKind.i64 1)) 3)⟩,
      ⟨none, some 5, (Op.assign (Operand.tmp 17))⟩]))
def ac78 : ACode :=
  .seq (.reg [⟨none, some 4, (Op.assign (Operand.const (Value.int IntKind.i64 0)))⟩])
  (.seq (.reg [⟨none, some 6, (Op.move (Operand.tmp 1))⟩,
      ⟨none, some 7, (Op.move (Operand.tmp 0))⟩,
      ⟨none, some 8, (Op.call ⟨(Callee.builtin Builtin.len), #[(Operand.tmp 7)], #[51]⟩)⟩,
      ⟨none, some 9, (Op.binOp BinOp.sub 3 (Operand.tmp 6) (Operand.tmp 8) 3)⟩,
      ⟨none, some 1, (Op.assign (Operand.tmp 9))⟩])
   (.seq (.seq (.reg [⟨none, some 10, (Op.move (Operand.tmp 1))⟩,
        ⟨none, some 11, (Op.binOp BinOp.lss 3 (Operand.tmp 10) (Operand.const (Value.int IntKind.i64 0)) 3)⟩])
     (.cond (Operand.tmp 11) (.seq (.reg [⟨none, some 4, (Op.assign (Operand.const (Value.int IntKind.i64 (-1))))⟩])
       (.ret)) (.skip)))
    (.seq (.seq (.reg [⟨none, some 5, (Op.assign (Operand.const (Value.int IntKind.i64 0)))⟩])
      (.block 0 (.loop ac78_l0)))
     (.seq (.reg [⟨none, some 26, (Op.move (Operand.tmp 1))⟩,
         ⟨none, some 4, (Op.assign (Operand.tmp 26))⟩])
      (.ret)))))
theorem vc78 {args : List AV} {L : List (Nat × Ob)} {R : AV → List (Nat × Ob) → Prop} (ha : args.length ≤ 27) (hL : (L.map (·.1)).Nodup)
    (h : ev Go.Proofs.Tryd.prog ⟨27, L.map (·.1)⟩ ac78 (retQ Go.Proofs.Tryd.prog [(ResultVar.tmp 4)] R) ⟨argT args, hpOf L, Us.of (L.map (·.1))⟩) : ACall Go.Proofs.Tryd.prog 78 args L R :=
  acallA (by kernel_rfl) 27 [] [(ResultVar.tmp 4)] Go.Proofs.Tryd.func78 (by kernel_rfl) Go.Proofs.Tryd.ntmps78 (by kernel_rfl) ha hL (va_of_ev _ h)
theorem en78 : enters Go.Proofs.Tryd.prog 78 = true := by kernel_rfl
def ac136 : ACode :=
  .seq (.reg [⟨none, some 2, (Op.box 177 (Operand.tmp 0))⟩,
     ⟨none, some 4, (Op.assign (Operand.const (Value.int IntKind.i64 0)))⟩])
  (.seq (.reg [⟨none, some 5, (Op.move (Operand.tmp 1))⟩,
      ⟨none, some 6, (Op.fieldAddr 177 (Operand.tmp 2) 0)⟩,
      ⟨none, some 7, (Op.load 9 (Operand.tmp 6))⟩,
      ⟨none, some 8, (Op.call ⟨(Callee.builtin Builtin.len), #[(Operand.tmp 7)], #[9]⟩)⟩,
      ⟨none, some 9, (Op.binOp BinOp.sub 3 (Operand.tmp 5) (Operand.tmp 8) 3)⟩,
      ⟨none, some 1, (Op.assign (Operand.tmp 9))⟩])
   (.seq (.seq (.reg [⟨none, some 10, (Op.move (Operand.tmp 1))⟩,
        ⟨none, some 11, (Op.binOp BinOp.lss 3 (Operand.tmp 10) (Operand.const (Value.int IntKind.i64 0)) 3)⟩])
     (.cond (Operand.tmp 11) (.seq (.reg [⟨none, some 4, (Op.assign (Operand.const (Value.int IntKind.i64 (-1))))⟩])
       (.ret)) (.skip)))
    (.seq (.reg [⟨none, some 12, (Op.move (Operand.tmp 1))⟩,
        ⟨none, some 13, (Op.fieldAddr 177 (Operand.tmp 2) 2)⟩,
        ⟨none, some 14, (Op.load 9 (Operand.tmp 13))⟩,
        ⟨none, some 15, (Op.call ⟨(Callee.builtin Builtin.len), #[(Operand.tmp 14)], #[9]⟩)⟩,
        ⟨none, some 16, (Op.binOp BinOp.sub 3 (Operand.tmp 12) (Operand.tmp 15) 3)⟩,
        ⟨none, some 1, (Op.assign (Operand.tmp 16))⟩])
     (.seq (.seq (.reg [⟨none, some 17, (Op.move (Operand.tmp 1))⟩,
          ⟨none, some 18, (Op.binOp BinOp.lss 3 (Operand.tmp 17) (Operand.const (Value.int IntKind.i64 0)) 3)⟩])
       (.cond (Operand.tmp 18) (.seq (.reg [⟨none, some 4, (Op.assign (Operand.const (Value.int IntKind.i64 (-1))))⟩])
         (.ret)) (.skip)))
      (.seq (.reg [⟨none, some 19, (Op.move (Operand.tmp 1))⟩,
          ⟨none, some 4, (Op.assign (Operand.tmp 19))⟩])
       (.ret))))))
theorem vc136 {args : List AV} {L : List (Nat × Ob)} {R : AV → List (Nat × Ob) → Prop} (ha : args.length ≤ 20) (hL : (L.map (·.1)).Nodup)
    (h : ev Go.Proofs.Tryd.prog ⟨20, L.map (·.1)⟩ ac136 (retQ Go.Proofs.Tryd.prog [(ResultVar.tmp 4)] R) ⟨argT args, hpOf L, Us.of (L.map (·.1))⟩) : ACall Go.Proofs.Tryd.prog 136 args L R :=
  acallA (by kernel_rfl) 20 [] [(ResultVar.tmp 4)] Go.Proofs.Tryd.func136 (by kernel_rfl) Go.Proofs.Tryd.ntmps136 (by kernel_rfl) ha hL (va_of_ev _ h)
theorem en136 : enters Go.Proofs.Tryd.prog 136 = true := by kernel_rfl
def ac79 : ACode :=
  .seq (.reg [⟨none, some 4, (Op.assign (Operand.const (Value.int IntKind.i64 0)))⟩])
  (.seq (.reg [⟨none, some 5, (Op.move (Operand.tmp 1))⟩,
      ⟨none, some 6, (Op.move (Operand.tmp 0))⟩,
      ⟨none, some 7, (Op.call ⟨(Callee.builtin Builtin.len), #[(Operand.tmp 6)], #[52]⟩)⟩,
      ⟨none, some 8, (Op.binOp BinOp.sub 3 (Operand.tmp 5) (Operand.tmp 7) 3)⟩,
      ⟨none, some 1, (Op.assign (Operand.tmp 8))⟩])
   (.seq (.seq (.reg [⟨none, some 9, (Op.move (Operand.tmp 1))⟩,
        ⟨none, some 10, (Op.binOp BinOp.lss 3 (Operand.tmp 9) (Operand.const (Value.int IntKind.i64 0)) 3)⟩])
     (.cond (Operand.tmp 10) (.seq (.reg [⟨none, some 4, (Op.assign (Operand.const (Value.int IntKind.i64 (-1))))⟩])
       (.ret)) (.skip)))
    (.seq (.reg [⟨none, some 11, (Op.move (Operand.tmp 1))⟩,
        ⟨none, some 4, (Op.assign (Operand.tmp 11))⟩])
     (.ret))))
theorem vc79 {args : List AV} {L : List (Nat × Ob)} {R : AV → List (Nat × Ob) → Prop} (ha : args.length ≤ 12) (hL : (L.map (·.1)).Nodup)
    (h : ev Go.Proofs.Tryd.prog ⟨12, L.map (·.1)⟩ ac79 (retQ Go.Proofs.Tryd.prog [(ResultVar.tmp 4)] R) ⟨argT args, hpOf L, Us.of (L.map (·.1))⟩) : ACall Go.Proofs.Tryd.prog 79 args L R :=
  acallA (by kernel_rfl) 12 [] [(ResultVar.tmp 4)] Go.Proofs.Tryd.func79 (by kernel_rfl) Go.Proofs.Tryd.ntmps79 (by kernel_rfl) ha hL (va_of_ev _ h)
theorem en79 : enters Go.Proofs.Tryd.prog 79 = true := by kernel_rfl
def ac80 : ACode :=
  .seq (.reg [⟨none, some 4, (Op.assign (Operand.const (Value.int IntKind.i64 0)))⟩])
  (.seq (.reg [⟨none, some 5, (Op.move (Operand.tmp 1))⟩,
      ⟨none, some 6, (Op.move (Operand.tmp 0))⟩,
      ⟨none, some 7, (Op.call ⟨(Callee.builtin Builtin.len), #[(Operand.tmp 6)], #[53]⟩)⟩,
      ⟨none, some 8, (Op.binOp BinOp.sub 3 (Operand.tmp 5) (Operand.tmp 7) 3)⟩,
      ⟨none, some 1, (Op.assign (Operand.tmp 8))⟩])
   (.seq (.seq (.reg [⟨none, some 9, (Op.move (Operand.tmp 1))⟩,
        ⟨none, some 10, (Op.binOp BinOp.lss 3 (Operand.tmp 9) (Operand.const (Value.int IntKind.i64 0)) 3)⟩])
     (.cond (Operand.tmp 10) (.seq (.reg [⟨none, some 4, (Op.assign (Operand.const (Value.int IntKind.i64 (-1))))⟩])
       (.ret)) (.skip)))
    (.seq (.reg [⟨none, some 11, (Op.move (Operand.tmp 1))⟩,
        ⟨none, some 4, (Op.assign (Operand.tmp 11))⟩])
     (.ret))))
theorem vc80 {args : List AV} {L : List (Nat × Ob)} {R : AV → List (Nat × Ob) → Prop} (ha : args.length ≤ 12) (hL : (L.map (·.1)).Nodup)
    (h : ev Go.Proofs.Tryd.prog ⟨12, L.map (·.1)⟩ ac80 (retQ Go.Proofs.Tryd.prog [(ResultVar.tmp 4)] R) ⟨argT args, hpOf L, Us.of (L.map (·.1))⟩) : ACall Go.Proofs.Tryd.prog 80 args L R :=
  acallA (by kernel_rfl) 12 [] [(ResultVar.tmp 4)] Go.Proofs.Tryd.func80 (by kernel_rfl) Go.Proofs.Tryd.ntmps80 (by kernel_rfl) ha hL (va_of_ev _ h)
theorem en80 : enters Go.Proofs.Tryd.prog 80 = true := by kernel_rfl
def ac81 : ACode :=
  .seq (.reg [⟨none, some 4, (Op.assign (Operand.const (Value.int IntKind.i64 0)))⟩])
  (.seq (.reg [⟨none, some 5, (Op.move (Operand.tmp 1))⟩,
      ⟨none, some 6, (Op.move (Operand.tmp 0))⟩,
      ⟨none, some 7, (Op.call ⟨(Callee.builtin Builtin.len), #[(Operand.tmp 6)], #[54]⟩)⟩,
      ⟨none, some 8, (Op.binOp BinOp.sub 3 (Operand.tmp 5) (Operand.tmp 7) 3)⟩,
      ⟨none, some 1, (Op.assign (Operand.tmp 8))⟩])
   (.seq (.seq (.reg [⟨none, some 9, (Op.move (Operand.tmp 1))⟩,
        ⟨none, some 10, (Op.binOp BinOp.lss 3 (Operand.tmp 9) (Operand.const (Value.int IntKind.i64 0)) 3)⟩])
     (.cond (Operand.tmp 10) (.seq (.reg [⟨none, some 4, (Op.assign (Operand.const (Value.int IntKind.i64 (-1))))⟩])
       (.ret)) (.skip)))
    (.seq (.reg [⟨none, some 11, (Op.move (Operand.tmp 1))⟩,
        ⟨none, some 4, (Op.assign (Operand.tmp 11))⟩])
     (.ret))))
theorem vc81 {args : List AV} {L : List (Nat × Ob)} {R : AV → List (Nat × Ob) → Prop} (ha : args.length ≤ 12) (hL : (L.map (·.1)).Nodup)
    (h : ev Go.Proofs.Tryd.prog ⟨12, L.map (·.1)⟩ ac81 (retQ Go.Proofs.Tryd.prog [(ResultVar.tmp 4)] R) ⟨argT args, hpOf L, Us.of (L.map (·.1))⟩) : ACall Go.Proofs.Tryd.prog 81 args L R :=
  acallA (by kernel_rfl) 12 [] [(ResultVar.tmp 4)] Go.Proofs.Tryd.func81 (by kernel_rfl) Go.Proofs.Tryd.ntmps81 (by kernel_rfl) ha hL (va_of_ev _ h)
theorem en81 : enters Go.Proofs.Tryd.prog 81 = true := by kernel_rfl
end Go.Av.F
end
section
namespace Go.Av.F
open Go Go.Av
set_option linter.unusedSimpArgs false
set_option linter.unusedVariables false
set_option maxRecDepth 100000
attribute [local simp] tt3 tt4 tt9 tt51 tt52 tt53 tt54 tt56 tt177 tt185 tt174 tt175
theorem maxLen_eq : maxLen = 9223372036854775807 := by decide
def szR (left : Int) (G : Prop) (r : AV) : Prop := ∃ z : Int, r = .int .i64 z ∧ -1 ≤ z ∧ z ≤ left ∧ (0 ≤ z → G)
theorem szDdtC (l : List DE) (left : Int) (hl : l.length ≤ maxLen) (h0 : 0 ≤ left ∧ left ≤ 1048576) : ACall Go.Proofs.Tryd.prog 79 [.lst 3 (l.map DE.row), .int .i64 left] [] (fun r L' => szR left ((l.length : Int) ≤ left) r ∧ clA r = true ∧ L' = []) := by
  rw [maxLen_eq] at hl
  have e1 : IntKind.i64.wrap (left - l.length) = left - l.length := i64_in' _ (by omega)
  apply vc79 (by simp) (by simp)
  simp [ac79, e1]
  by_cases h : left < l.length
  · have h' : left - (l.length : Int) < 0 := by omega
    simp [h, h', szR]
    omega
  · have h' : ¬ left - (l.length : Int) < 0 := by omega
    simp [h, h', szR]
    omega
theorem szPtrC (l : List PT) (left : Int) (hl : l.length ≤ maxLen) (h0 : 0 ≤ left ∧ left ≤ 1048576) : ACall Go.Proofs.Tryd.prog 80 [.lst 3 (l.map PT.row), .int .i64 left] [] (fun r L' => szR left ((l.length : Int) ≤ left) r ∧ clA r = true ∧ L' = []) := by
  rw [maxLen_eq] at hl
  have e1 : IntKind.i64.wrap (left - l.length) = left - l.length := i64_in' _ (by omega)
  apply vc80 (by simp) (by simp)
  simp [ac80, e1]
  by_cases h : left < l.length
  · have h' : left - (l.length : Int) < 0 := by omega
    simp [h, h', szR]
    omega
  · have h' : ¬ left - (l.length : Int) < 0 := by omega
    simp [h, h', szR]
    omega
theorem szIntC (l : List Int) (left : Int) (hl : l.length ≤ maxLen) (h0 : 0 ≤ left ∧ left ≤ 1048576) : ACall Go.Proofs.Tryd.prog 81 [.lst 1 (l.map intRow), .int .i64 left] [] (fun r L' => szR left ((l.length : Int) ≤ left) r ∧ clA r = true ∧ L' = []) := by
  rw [maxLen_eq] at hl
  have e1 : IntKind.i64.wrap (left - l.length) = left - l.length := i64_in' _ (by omega)
  apply vc81 (by simp) (by simp)
  simp [ac81, e1]
  by_cases h : left < l.length
  · have h' : left - (l.length : Int) < 0 := by omega
    simp [h, h', szR]
    omega
  · have h' : ¬ left - (l.length : Int) < 0 := by omega
    simp [h, h', szR]
    omega
def CsS (s : CS) (n : Int) : Prop := (s.name.length : Int) ≤ n ∧ (s.frm.length : Int) ≤ n
theorem flat3 : ∀ (l : List PT), (l.flatMap PT.row).length = 3 * l.length
  | [] => rfl
  | a :: r => by simp only [List.flatMap_cons, List.length_append, flat3 r, List.length_cons]; simp only [PT.row, List.length_cons, List.length_nil]; omega
theorem cs_len (s : CS) (h : s.map.length = 8) : s.row.length = 31 := by
  simp only [CS.row, List.length_cons, List.length_append, flat3, h, PT.row, List.length_nil]
theorem cs_take (s : CS) (h : s.map.length = 8) : s.row.take 31 = s.row := List.take_of_length_le (by rw [cs_len s h]; omega)
theorem oneA_cs (s : CS) : ∀ x ∈ s.row, oneA x = true := fun y hy => by
  simp only [CS.row, List.mem_cons, List.mem_append, List.mem_flatMap, PT.row, List.not_mem_nil, or_false] at hy
  rcases hy with rfl | rfl | rfl | ⟨p, _, rfl | rfl | rfl⟩ | (rfl | rfl | rfl) | rfl <;> rfl
theorem clL_app : ∀ {a b : List AV}, clL a = true → clL b = true → clL (a ++ b) = true
  | [], _, _, h => h
  | x :: a, b, h1, h2 => by
    simp only [clL, List.cons_append, Bool.and_eq_true] at h1 ⊢
    exact ⟨h1.1, clL_app h1.2 h2⟩
theorem clL_pts : ∀ l : List PT, clL (l.flatMap PT.row) = true
  | [] => rfl
  | a :: r => by
    rw [List.flatMap_cons]
    exact clL_app (by simp [PT.row, clL, clA]) (clL_pts r)
theorem cs_cl (s : CS) : clL s.row = true := by
  simp only [CS.row, clL, clA, Bool.true_and]
  exact clL_app (clL_pts _) (by simp [PT.row, clL, clA])
theorem szCsC (s : CS) (left : Int) (hg : CsG s) (h0 : 0 ≤ left ∧ left ≤ 1048576) : ACall Go.Proofs.Tryd.prog 136 [.agg s.row, .int .i64 left] [] (fun r L' => szR left (CsS s left) r ∧ clA r = true ∧ L' = []) := by
  obtain ⟨_, h8, _, _, hn, hf⟩ := hg
  rw [maxLen_eq] at hn hf
  have hl := cs_len s h8
  have e1 : IntKind.i64.wrap (left - s.name.length) = left - s.name.length := i64_in' _ (by omega)
  have g0 : (CS.row s)[0]? = some (.str s.name) := rfl
  have g2 : (CS.row s)[2]? = some (.str s.frm) := rfl
  apply vc136 (by simp) (by simp)
  have q0 : (CS.row s)[0]'(by omega) = .str s.name := rfl
  have q2 : (CS.row s)[2]'(by omega) = .str s.frm := rfl
  simp [ac136, hl, oneA_cs s, g0, g2, q0, q2, e1]
  by_cases h : left < s.name.length
  · have h' : left - (s.name.length : Int) < 0 := by omega
    simp [h, h', szR]
    omega
  · have h' : ¬ left - (s.name.length : Int) < 0 := by omega
    have e2 : IntKind.i64.wrap (left - s.name.length - s.frm.length) = left - s.name.length - s.frm.length := i64_in' _ (by omega)
    by_cases k : left - (s.name.length : Int) < s.frm.length
    · have k' : left - (s.name.length : Int) - s.frm.length < 0 := by omega
      simp [h, h', k, k', e2, szR]
      omega
    · have k' : ¬ left - (s.name.length : Int) - s.frm.length < 0 := by omega
      simp [h, h', k, k', e2, szR, CsS]
      omega
theorem szSetsC (l : List CS) (left : Int) (hg : ∀ s ∈ l, CsG s) (hl : l.length ≤ maxLen) (h0 : 0 ≤ left ∧ left ≤ 1048576) :
    ACall Go.Proofs.Tryd.prog 78 [.lst 31 (l.map CS.row), .int .i64 left] [] (fun r L' => szR left ((l.length : Int) ≤ left ∧ ∀ s ∈ l, CsS s left) r ∧ clA r = true ∧ L' = []) := by
  rw [maxLen_eq] at hl
  have e1 : IntKind.i64.wrap (left - l.length) = left - l.length := i64_in' _ (by omega)
  apply vc78 (by simp) (by simp)
  simp [ac78, e1]
  by_cases h : left < l.length
  · have h' : left - (l.length : Int) < 0 := by omega
    simp [h, h', szR]
    omega
  · have h' : ¬ left - (l.length : Int) < 0 := by omega
    simp [h, h']
    intro hle
    refine ev_loopX (X := Nat × Int) [0, 1, 5] (fun x => ⟨mkT [(0, .lst 31 (l.map CS.row)), (1, .int .i64 x.2), (5, .int .i64 x.1)], hpOf [], Us.of []⟩) (fun x => l.length - x.1) (fun x => x.1 ≤ l.length ∧ 0 ≤ x.2 ∧ x.2 ≤ left ∧ ∀ s ∈ l.take x.1, CsS s left) (0, left - l.length) ⟨⟨by simp, by simp only; omega, by simp only; omega, by simp⟩, [], by simp [canonOk], by simp [canon]⟩ ?_
    rintro ⟨i, z⟩ ⟨hi, z0, zl, ha⟩
    simp only at hi z0 zl ha
    by_cases h1 : i < l.length
    · obtain ⟨s, e0⟩ : ∃ s, l[i] = s := ⟨_, rfl⟩
      have e1 : l[i]? = some s := by rw [← e0]; exact List.getElem?_eq_getElem h1
      have e2 : IntKind.i64.wrap ((i : Int) + 1) = ((i + 1 : Nat) : Int) := by rw [i64_in' _ (by omega)]; omega
      have hs := hg s (List.mem_of_getElem? e1)
      simp [ac78_l0, h1, e0, e1, cs_len s hs.2.1, cs_take s hs.2.1]
      refine callA_ex en136 (szCsC s z hs (by omega)) (by simp [cs_cl]) ?_
      rintro r ⟨y, rfl, y1, y2, y3⟩
      by_cases hy : y < 0
      · simp [hy, szR]
        omega
      · simp [hy, e2]
        refine nextX_of (i + 1, y) (by simp only; omega) ⟨by simp only; omega, by simp only; omega, by simp only; omega, fun x hx => ?_⟩ [] (by simp [canonOk]) (by simp [canon])
        simp only at hx
        rw [List.take_add_one, e1] at hx
        rcases List.mem_append.1 hx with hx | hx
        · exact ha x hx
        · simp at hx; subst hx
          have := y3 (by omega)
          exact ⟨by have := this.1; omega, by have := this.2; omega⟩
    · have hie : i = l.length := by omega
      subst hie
      rw [List.take_length] at ha
      simp [ac78_l0]
      exact ⟨z, rfl, by omega, zl, fun _ => ⟨by omega, ha⟩⟩
def CoS (c : CO) : Prop := c.sets.length ≤ 1048576 ∧ c.ddt.length ≤ 1048576 ∧ c.parts.length ≤ 1048576 ∧ c.safe.length ≤ 1048576 ∧ ∀ s ∈ c.sets, s.name.length ≤ 1048576 ∧ s.frm.length ≤ 1048576
theorem szCoreC (c : CO) (hg : CoG c) : ACall Go.Proofs.Tryd.prog 29 [.agg c.row, .int .i64 1048576] [] (fun r L' => szR 1048576 (CoS c) r ∧ clA r = true ∧ L' = []) := by
  obtain ⟨_, g2, _, _, _, _, m1, m2, m3, m4⟩ := hg
  apply vc29 (by simp) (by simp)
  simp [ac29, CO.row]
  refine callA_ex en78 (szSetsC c.sets 1048576 g2 m1 (by omega)) (by simp) ?_
  rintro r ⟨y, rfl, y1, y2, y3⟩
  by_cases hy : y < 0
  · simp [hy, szR]
  simp [hy]
  refine callA_ex en79 (szDdtC c.ddt y m2 (by omega)) (by simp) ?_
  rintro r ⟨x, rfl, x1, x2, x3⟩
  by_cases hx : x < 0
  · simp [hx, szR]
  simp [hx]
  refine callA_ex en80 (szPtrC c.parts x m3 (by omega)) (by simp) ?_
  rintro r ⟨z, rfl, z1, z2, z3⟩
  by_cases hz : z < 0
  · simp [hz, szR]
  simp [hz]
  refine callA_ex en81 (szIntC c.safe z m4 (by omega)) (by simp) ?_
  rintro r ⟨v, rfl, v1, v2, v3⟩
  by_cases hv : v < 0
  · simp [hv, szR]
  simp [hv]
  obtain ⟨q1, q2⟩ := y3 (by omega)
  have q3 := x3 (by omega)
  have q4 := z3 (by omega)
  have q5 := v3 (by omega)
  exact ⟨v, rfl, by omega, by omega, fun _ => ⟨by omega, by omega, by omega, by omega, fun s hs => ⟨by have := (q2 s hs).1; omega, by have := (q2 s hs).2; omega⟩⟩⟩
end Go.Av.F
end
section
namespace Go.Av.F
open Go Go.Av
set_option maxRecDepth 100000
set_option linter.constructorNameAsVariable false
def ac146 : ACode :=
  .seq (.reg [⟨none, some 1, (Op.box 174 (Operand.tmp 0))⟩,
     ⟨none, some 2, (Op.alloc 123)⟩])
  (.seq (.reg [⟨none, some 3, (Op.alloc 123)⟩])
   (.seq (.reg [⟨none, some 4, (Op.fieldAddr 174 (Operand.tmp 1) 0)⟩,
       ⟨none, some 5, (Op.load 3 (Operand.tmp 4))⟩,
       ⟨none, some 6, (Op.fieldAddr 123 (Operand.tmp 3) 0)⟩,
       ⟨none, none, (Op.store 3 (Operand.tmp 6) (Operand.tmp 5))⟩])
    (.seq (.reg [⟨none, some 7, (Op.fieldAddr 174 (Operand.tmp 1) 1)⟩,
        ⟨none, some 8, (Op.load 3 (Operand.tmp 7))⟩,
        ⟨none, some 9, (Op.fieldAddr 123 (Operand.tmp 3) 1)⟩,
        ⟨none, none, (Op.store 3 (Operand.tmp 9) (Operand.tmp 8))⟩])
     (.seq (.reg [⟨none, some 10, (Op.fieldAddr 174 (Operand.tmp 1) 2)⟩,
         ⟨none, some 11, (Op.load 3 (Operand.tmp 10))⟩,
         ⟨none, some 12, (Op.fieldAddr 123 (Operand.tmp 3) 2)⟩,
         ⟨none, none, (Op.store 3 (Operand.tmp 12) (Operand.tmp 11))⟩])
      (.seq (.reg [⟨none, some 13, (Op.load 123 (Operand.tmp 3))⟩,
          ⟨none, none, (Op.store 123 (Operand.tmp 2) (Operand.tmp 13))⟩])
       (.ret))))))
theorem vc146 {args : List AV} {L : List (Nat × Ob)} {R : AV → List (Nat × Ob) → Prop} (ha : args.length ≤ 14) (hL : (L.map (·.1)).Nodup)
    (h : ev Go.Proofs.Tryd.prog ⟨14, L.map (·.1)⟩ ac146 (retQ Go.Proofs.Tryd.prog [(ResultVar.cell 2 123)] R) ⟨argT args, hpOf L, Us.of (L.map (·.1))⟩) : ACall Go.Proofs.Tryd.prog 146 args L R :=
  acallA (by kernel_rfl) 14 [] [(ResultVar.cell 2 123)] Go.Proofs.Tryd.func146 (by kernel_rfl) Go.Proofs.Tryd.ntmps146 (by kernel_rfl) ha hL (va_of_ev _ h)
theorem en146 : enters Go.Proofs.Tryd.prog 146 = true := by kernel_rfl
def ac85_l0 : ACode :=
  .seq (.seq (.reg [⟨none, some 8, (Op.move (Operand.tmp 4))⟩,
      ⟨none, some 9, (Op.move (Operand.tmp 0))⟩,
      ⟨none, some 10, (Op.call ⟨(Callee.builtin Builtin.len), #[(Operand.tmp 9)], #[53]⟩)⟩,
      ⟨none, some 11, (Op.binOp BinOp.lss 3 (Operand.tmp 8) (Operand.tmp 10) 3)⟩])
   (.cond (Operand.tmp 11) (.skip) (.exit 0)))
  (.seq (.block 1 (.reg [⟨none, some 14, (Op.move (Operand.tmp 3))⟩,
       ⟨none, some 15, (Op.move (Operand.tmp 4))⟩,
       ⟨none, some 16, (Op.move (Operand.tmp 0))⟩,
       ⟨none, some 17, (Op.move (Operand.tmp 4))⟩,
       ⟨none, some 18, (Op.indexAddr 53 (Operand.tmp 16) (Operand.tmp 17))⟩,
       ⟨none, some 19, (Op.load 174 (Operand.tmp 18))⟩,
       ⟨none, some 20, (Op.call ⟨(Callee.value (Operand.func 146)), #[(Operand.tmp 19)], #[174]⟩)⟩,
       ⟨none, some 21, (Op.indexAddr 61 (Operand.tmp 14) (Operand.tmp 15))⟩,
       ⟨none, none, (Op.store 123 (Operand.tmp 21) (Operand.tmp 20))⟩]))
   (.reg [⟨none, some 12, (Op.move (Operand.tmp 4))⟩,
      ⟨none, some 13, (Op.binOp BinOp.add 3 (Operand.tmp 12) (Operand.const (Value.int IntKind.i64 1)) 3)⟩,
      ⟨none, some 4, (Op.assign (Operand.tmp 13))⟩]))
def ac85 : ACode :=
  .seq (.reg [⟨none, some 2, (Op.assign (Operand.const (Value.slice none 0 0)))⟩])
  (.seq (.reg [⟨none, some 5, (Op.move (Operand.tmp 0))⟩,
      ⟨none, some 6, (Op.call ⟨(Callee.builtin Builtin.len), #[(Operand.tmp 5)], #[53]⟩)⟩,
      ⟨none, some 7, (Op.makeSlice 61 (Operand.tmp 6) (Operand.tmp 6))⟩,
      ⟨none, some 3, (Op.assign (Operand.tmp 7))⟩])
   (.seq (.seq (.reg [⟨none, some 4, (Op.assign (Operand.const (Value.int IntKind.i64 0)))⟩])
     (.block 0 (.loop ac85_l0)))
    (.seq (.reg [⟨none, some 22, (Op.move (Operand.tmp 3))⟩,
        ⟨none, some 2, (Op.assign (Operand.tmp 22))⟩])
     (.ret))))
theorem vc85 {args : List AV} {L : List (Nat × Ob)} {R : AV → List (Nat × Ob) → Prop} (ha : args.length ≤ 23) (hL : (L.map (·.1)).Nodup)
    (h : ev Go.Proofs.Tryd.prog ⟨23, L.map (·.1)⟩ ac85 (retQ Go.Proofs.Tryd.prog [(ResultVar.tmp 2)] R) ⟨argT args, hpOf L, Us.of (L.map (·.1))⟩) : ACall Go.Proofs.Tryd.prog 85 args L R :=
  acallA (by kernel_rfl) 23 [] [(ResultVar.tmp 2)] Go.Proofs.Tryd.func85 (by kernel_rfl) Go.Proofs.Tryd.ntmps85 (by kernel_rfl) ha hL (va_of_ev _ h)
theorem en85 : enters Go.Proofs.Tryd.prog 85 = true := by kernel_rfl
def ac145 : ACode :=
  .seq (.reg [⟨none, some 1, (Op.box 185 (Operand.tmp 0))⟩,
     ⟨none, some 2, (Op.alloc 113)⟩])
  (.seq (.reg [⟨none, some 3, (Op.alloc 113)⟩])
   (.seq (.reg [⟨none, some 4, (Op.fieldAddr 185 (Operand.tmp 1) 0)⟩,
       ⟨none, some 5, (Op.load 3 (Operand.tmp 4))⟩,
       ⟨none, some 6, (Op.fieldAddr 113 (Operand.tmp 3) 0)⟩,
       ⟨none, none, (Op.store 3 (Operand.tmp 6) (Operand.tmp 5))⟩])
    (.seq (.reg [⟨none, some 7, (Op.fieldAddr 185 (Operand.tmp 1) 1)⟩,
        ⟨none, some 8, (Op.load 3 (Operand.tmp 7))⟩,
        ⟨none, some 9, (Op.fieldAddr 113 (Operand.tmp 3) 1)⟩,
        ⟨none, none, (Op.store 3 (Operand.tmp 9) (Operand.tmp 8))⟩])
     (.seq (.reg [⟨none, some 10, (Op.fieldAddr 185 (Operand.tmp 1) 2)⟩,
         ⟨none, some 11, (Op.load 3 (Operand.tmp 10))⟩,
         ⟨none, some 12, (Op.fieldAddr 113 (Operand.tmp 3) 2)⟩,
         ⟨none, none, (Op.store 3 (Operand.tmp 12) (Operand.tmp 11))⟩])
      (.seq (.reg [⟨none, some 13, (Op.load 113 (Operand.tmp 3))⟩,
          ⟨none, none, (Op.store 113 (Operand.tmp 2) (Operand.tmp 13))⟩])
       (.ret))))))
theorem vc145 {args : List AV} {L : List (Nat × Ob)} {R : AV → List (Nat × Ob) → Prop} (ha : args.length ≤ 14) (hL : (L.map (·.1)).Nodup)
    (h : ev Go.Proofs.Tryd.prog ⟨14, L.map (·.1)⟩ ac145 (retQ Go.Proofs.Tryd.prog [(ResultVar.cell 2 113)] R) ⟨argT args, hpOf L, Us.of (L.map (·.1))⟩) : ACall Go.Proofs.Tryd.prog 145 args L R :=
  acallA (by kernel_rfl) 14 [] [(ResultVar.cell 2 113)] Go.Proofs.Tryd.func145 (by kernel_rfl) Go.Proofs.Tryd.ntmps145 (by kernel_rfl) ha hL (va_of_ev _ h)
theorem en145 : enters Go.Proofs.Tryd.prog 145 = true := by kernel_rfl
def ac84_l0 : ACode :=
  .seq (.seq (.reg [⟨none, some 8, (Op.move (Operand.tmp 4))⟩,
      ⟨none, some 9, (Op.move (Operand.tmp 0))⟩,
      ⟨none, some 10, (Op.call ⟨(Callee.builtin Builtin.len), #[(Operand.tmp 9)], #[52]⟩)⟩,
      ⟨none, some 11, (Op.binOp BinOp.lss 3 (Operand.tmp 8) (Operand.tmp 10) 3)⟩])
   (.cond (Operand.tmp 11) (.skip) (.exit 0)))
  (.seq (.block 1 (.reg [⟨none, some 14, (Op.move (Operand.tmp 3))⟩,
       ⟨none, some 15, (Op.move (Operand.tmp 4))⟩,
       ⟨none, some 16, (Op.move (Operand.tmp 0))⟩,
       ⟨none, some 17, (Op.move (Operand.tmp 4))⟩,
       ⟨none, some 18, (Op.indexAddr 52 (Operand.tmp 16) (Operand.tmp 17))⟩,
       ⟨none, some 19, (Op.load 185 (Operand.tmp 18))⟩,
       ⟨none, some 20, (Op.call ⟨(Callee.value (Operand.func 145)), #[(Operand.tmp 19)], #[185]⟩)⟩,
       ⟨none, some 21, (Op.indexAddr 60 (Operand.tmp 14) (Operand.tmp 15))⟩,
       ⟨none, none, (Op.store 113 (Operand.tmp 21) (Operand.tmp 20))⟩]))
   (.reg [⟨none, some 12, (Op.move (Operand.tmp 4))⟩,
      ⟨none, some 13, (Op.binOp BinOp.add 3 (Operand.tmp 12) (Operand.const (Value.int IntKind.i64 1)) 3)⟩,
      ⟨none, some 4, (Op.assign (Operand.tmp 13))⟩]))
def ac84 : ACode :=
  .seq (.reg [⟨none, some 2, (Op.assign (Operand.const (Value.slice none 0 0)))⟩])
  (.seq (.reg [⟨none, some 5, (Op.move (Operand.tmp 0))⟩,
      ⟨none, some 6, (Op.call ⟨(Callee.builtin Builtin.len), #[(Operand.tmp 5)], #[52]⟩)⟩,
      ⟨none, some 7, (Op.makeSlice 60 (Operand.tmp 6) (Operand.tmp 6))⟩,
      ⟨none, some 3, (Op.assign (Operand.tmp 7))⟩])
   (.seq (.seq (.reg [⟨none, some 4, (Op.assign (Operand.const (Value.int IntKind.i64 0)))⟩])
     (.block 0 (.loop ac84_l0)))
    (.seq (.reg [⟨none, some 22, (Op.move (Operand.tmp 3))⟩,
        ⟨none, some 2, (Op.assign (Operand.tmp 22))⟩])
     (.ret))))
theorem vc84 {args : List AV} {L : List (Nat × Ob)} {R : AV → List (Nat × Ob) → Prop} (ha : args.length ≤ 23) (hL : (L.map (·.1)).Nodup)
    (h : ev Go.Proofs.Tryd.prog ⟨23, L.map (·.1)⟩ ac84 (retQ Go.Proofs.Tryd.prog [(ResultVar.tmp 2)] R) ⟨argT args, hpOf L, Us.of (L.map (·.1))⟩) : ACall Go.Proofs.Tryd.prog 84 args L R :=
  acallA (by kernel_rfl) 23 [] [(ResultVar.tmp 2)] Go.Proofs.Tryd.func84 (by kernel_rfl) Go.Proofs.Tryd.ntmps84 (by kernel_rfl) ha hL (va_of_ev _ h)
theorem en84 : enters Go.Proofs.Tryd.prog 84 = true := by kernel_rfl
def ac86_l0 : ACode :=
  .seq (.seq (.reg [⟨none, some 8, (Op.move (Operand.tmp 4))⟩,
      ⟨none, some 9, (Op.move (Operand.tmp 0))⟩,
      ⟨none, some 10, (Op.call ⟨(Callee.builtin Builtin.len), #[(Operand.tmp 9)], #[54]⟩)⟩,
      ⟨none, some 11, (Op.binOp BinOp.lss 3 (Operand.tmp 8) (Operand.tmp 10) 3)⟩])
   (.cond (Operand.tmp 11) (.skip) (.exit 0)))
  (.seq (.block 1 (.reg [⟨none, some 14, (Op.move (Operand.tmp 3))⟩,
       ⟨none, some 15, (Op.move (Operand.tmp 4))⟩,
       ⟨none, some 16, (Op.move (Operand.tmp 0))⟩,
       ⟨none, some 17, (Op.move (Operand.tmp 4))⟩,
       ⟨none, some 18, (Op.indexAddr 54 (Operand.tmp 16) (Operand.tmp 17))⟩,
       ⟨none, some 19, (Op.load 3 (Operand.tmp 18))⟩,
       ⟨none, some 20, (Op.indexAddr 54 (Operand.tmp 14) (Operand.tmp 15))⟩,
       ⟨none, none, (Op.store 3 (Operand.tmp 20) (Operand.tmp 19))⟩]))
   (.reg [⟨none, some 12, (Op.move (Operand.tmp 4))⟩,
      ⟨none, some 13, (Op.binOp BinOp.add 3 (Operand.tmp 12) (Operand.const (Value.int IntKind.i64 1)) 3)⟩,
      ⟨none, some 4, (Op.assign (Operand.tmp 13))⟩]))
def ac86 : ACode :=
  .seq (.reg [⟨none, some 2, (Op.assign (Operand.const (Value.slice none 0 0)))⟩])
  (.seq (.reg [⟨none, some 5, (Op.move (Operand.tmp 0))⟩,
      ⟨none, some 6, (Op.call ⟨(Callee.builtin Builtin.len), #[(Operand.tmp 5)], #[54]⟩)⟩,
      ⟨none, some 7, (Op.makeSlice 54 (Operand.tmp 6) (Operand.tmp 6))⟩,
      ⟨none, some 3, (Op.assign (Operand.tmp 7))⟩])
   (.seq (.seq (.reg [⟨none, some 4, (Op.assign (Operand.const (Value.int IntKind.i64 0)))⟩])
     (.block 0 (.loop ac86_l0)))
    (.seq (.reg [⟨none, some 21, (Op.move (Operand.tmp 3))⟩,
        ⟨none, some 2, (Op.assign (Operand.tmp 21))⟩])
     (.ret))))
theorem vc86 {args : List AV} {L : List (Nat × Ob)} {R : AV → List (Nat × Ob) → Prop} (ha : args.length ≤ 22) (hL : (L.map (·.1)).Nodup)
    (h : ev Go.Proofs.Tryd.prog ⟨22, L.map (·.1)⟩ ac86 (retQ Go.Proofs.Tryd.prog [(ResultVar.tmp 2)] R) ⟨argT args, hpOf L, Us.of (L.map (·.1))⟩) : ACall Go.Proofs.Tryd.prog 86 args L R :=
  acallA (by kernel_rfl) 22 [] [(ResultVar.tmp 2)] Go.Proofs.Tryd.func86 (by kernel_rfl) Go.Proofs.Tryd.ntmps86 (by kernel_rfl) ha hL (va_of_ev _ h)
theorem en86 : enters Go.Proofs.Tryd.prog 86 = true := by kernel_rfl
def ac189_l0 : ACode :=
  .seq (.seq (.reg [⟨none, some 5, (Op.move (Operand.tmp 4))⟩,
      ⟨none, some 6, (Op.binOp BinOp.lss 3 (Operand.tmp 5) (Operand.const (Value.int IntKind.i64 8)) 3)⟩])
   (.cond (Operand.tmp 6) (.skip) (.exit 0)))
  (.seq (.block 1 (.reg [⟨none, some 9, (Op.move (Operand.tmp 4))⟩,
       ⟨none, some 10, (Op.move (Operand.tmp 4))⟩,
       ⟨none, some 11, (Op.indexAddr 175 (Operand.tmp 1) (Operand.tmp 10))⟩,
       ⟨none, some 12, (Op.load 174 (Operand.tmp 11))⟩,
       ⟨none, some 13, (Op.call ⟨(Callee.value (Operand.func 146)), #[(Operand.tmp 12)], #[174]⟩)⟩,
       ⟨none, some 14, (Op.indexAddr 124 (Operand.tmp 3) (Operand.tmp 9))⟩,
       ⟨none, none, (Op.store 123 (Operand.tmp 14) (Operand.tmp 13))⟩]))
   (.reg [⟨none, some 7, (Op.move (Operand.tmp 4))⟩,
      ⟨none, some 8, (Op.binOp BinOp.add 3 (Operand.tmp 7) (Operand.const (Value.int IntKind.i64 1)) 3)⟩,
      ⟨none, some 4, (Op.assign (Operand.tmp 8))⟩]))
def ac189 : ACode :=
  .seq (.reg [⟨none, some 1, (Op.box 175 (Operand.tmp 0))⟩,
     ⟨none, some 2, (Op.alloc 124)⟩])
  (.seq (.reg [⟨none, some 3, (Op.alloc 124)⟩])
   (.seq (.seq (.reg [⟨none, some 4, (Op.assign (Operand.const (Value.int IntKind.i64 0)))⟩])
     (.block 0 (.loop ac189_l0)))
    (.seq (.reg [⟨none, some 15, (Op.load 124 (Operand.tmp 3))⟩,
        ⟨none, none, (Op.store 124 (Operand.tmp 2) (Operand.tmp 15))⟩])
     (.ret))))
theorem vc189 {args : List AV} {L : List (Nat × Ob)} {R : AV → List (Nat × Ob) → Prop} (ha : args.length ≤ 16) (hL : (L.map (·.1)).Nodup)
    (h : ev Go.Proofs.Tryd.prog ⟨16, L.map (·.1)⟩ ac189 (retQ Go.Proofs.Tryd.prog [(ResultVar.cell 2 124)] R) ⟨argT args, hpOf L, Us.of (L.map (·.1))⟩) : ACall Go.Proofs.Tryd.prog 189 args L R :=
  acallA (by kernel_rfl) 16 [] [(ResultVar.cell 2 124)] Go.Proofs.Tryd.func189 (by kernel_rfl) Go.Proofs.Tryd.ntmps189 (by kernel_rfl) ha hL (va_of_ev _ h)
theorem en189 : enters Go.Proofs.Tryd.prog 189 = true := by kernel_rfl
def ac144 : ACode :=
  .seq (.reg [⟨none, some 1, (Op.box 177 (Operand.tmp 0))⟩,
     ⟨none, some 2, (Op.alloc 126)⟩])
  (.seq (.reg [⟨none, some 3, (Op.alloc 126)⟩])
   (.seq (.reg [⟨none, some 4, (Op.fieldAddr 177 (Operand.tmp 1) 0)⟩,
       ⟨none, some 5, (Op.load 9 (Operand.tmp 4))⟩,
       ⟨none, some 6, (Op.fieldAddr 126 (Operand.tmp 3) 0)⟩,
       ⟨none, none, (Op.store 9 (Operand.tmp 6) (Operand.tmp 5))⟩])
    (.seq (.reg [⟨none, some 7, (Op.fieldAddr 177 (Operand.tmp 1) 1)⟩,
        ⟨none, some 8, (Op.load 3 (Operand.tmp 7))⟩,
        ⟨none, some 9, (Op.fieldAddr 126 (Operand.tmp 3) 1)⟩,
        ⟨none, none, (Op.store 3 (Operand.tmp 9) (Operand.tmp 8))⟩])
     (.seq (.reg [⟨none, some 10, (Op.fieldAddr 177 (Operand.tmp 1) 2)⟩,
         ⟨none, some 11, (Op.load 9 (Operand.tmp 10))⟩,
         ⟨none, some 12, (Op.fieldAddr 126 (Operand.tmp 3) 2)⟩,
         ⟨none, none, (Op.store 9 (Operand.tmp 12) (Operand.tmp 11))⟩])
      (.seq (.reg [⟨none, some 13, (Op.fieldAddr 177 (Operand.tmp 1) 3)⟩,
          ⟨none, some 14, (Op.load 175 (Operand.tmp 13))⟩,
          ⟨none, some 15, (Op.call ⟨(Callee.value (Operand.func 189)), #[(Operand.tmp 14)], #[175]⟩)⟩,
          ⟨none, some 16, (Op.fieldAddr 126 (Operand.tmp 3) 3)⟩,
          ⟨none, none, (Op.store 124 (Operand.tmp 16) (Operand.tmp 15))⟩])
       (.seq (.reg [⟨none, some 17, (Op.fieldAddr 177 (Operand.tmp 1) 4)⟩,
           ⟨none, some 18, (Op.load 174 (Operand.tmp 17))⟩,
           ⟨none, some 19, (Op.call ⟨(Callee.value (Operand.func 146)), #[(Operand.tmp 18)], #[174]⟩)⟩,
           ⟨none, some 20, (Op.fieldAddr 126 (Operand.tmp 3) 4)⟩,
           ⟨none, none, (Op.store 123 (Operand.tmp 20) (Operand.tmp 19))⟩])
        (.seq (.reg [⟨none, some 21, (Op.fieldAddr 177 (Operand.tmp 1) 5)⟩,
            ⟨none, some 22, (Op.load 4 (Operand.tmp 21))⟩,
            ⟨none, some 23, (Op.fieldAddr 126 (Operand.tmp 3) 5)⟩,
            ⟨none, none, (Op.store 4 (Operand.tmp 23) (Operand.tmp 22))⟩])
         (.seq (.reg [⟨none, some 24, (Op.load 126 (Operand.tmp 3))⟩,
             ⟨none, none, (Op.store 126 (Operand.tmp 2) (Operand.tmp 24))⟩])
          (.ret)))))))))
theorem vc144 {args : List AV} {L : List (Nat × Ob)} {R : AV → List (Nat × Ob) → Prop} (ha : args.length ≤ 25) (hL : (L.map (·.1)).Nodup)
    (h : ev Go.Proofs.Tryd.prog ⟨25, L.map (·.1)⟩ ac144 (retQ Go.Proofs.Tryd.prog [(ResultVar.cell 2 126)] R) ⟨argT args, hpOf L, Us.of (L.map (·.1))⟩) : ACall Go.Proofs.Tryd.prog 144 args L R :=
  acallA (by kernel_rfl) 25 [] [(ResultVar.cell 2 126)] Go.Proofs.Tryd.func144 (by kernel_rfl) Go.Proofs.Tryd.ntmps144 (by kernel_rfl) ha hL (va_of_ev _ h)
theorem en144 : enters Go.Proofs.Tryd.prog 144 = true := by kernel_rfl
def ac83_l0 : ACode :=
  .seq (.seq (.reg [⟨none, some 8, (Op.move (Operand.tmp 4))⟩,
      ⟨none, some 9, (Op.move (Operand.tmp 0))⟩,
      ⟨none, some 10, (Op.call ⟨(Callee.builtin Builtin.len), #[(Operand.tmp 9)], #[51]⟩)⟩,
      ⟨none, some 11, (Op.binOp BinOp.lss 3 (Operand.tmp 8) (Operand.tmp 10) 3)⟩])
   (.cond (Operand.tmp 11) (.skip) (.exit 0)))
  (.seq (.block 1 (.reg [⟨none, some 14, (Op.move (Operand.tmp 3))⟩,
       ⟨none, some 15, (Op.move (Operand.tmp 4))⟩,
       ⟨none, some 16, (Op.move (Operand.tmp 0))⟩,
       ⟨none, some 17, (Op.move (Operand.tmp 4))⟩,
       ⟨none, some 18, (Op.indexAddr 51 (Operand.tmp 16) (Operand.tmp 17))⟩,
       ⟨none, some 19, (Op.load 177 (Operand.tmp 18))⟩,
       ⟨none, some 20, (Op.call ⟨(Callee.value (Operand.func 144)), #[(Operand.tmp 19)], #[177]⟩)⟩,
       ⟨none, some 21, (Op.indexAddr 59 (Operand.tmp 14) (Operand.tmp 15))⟩,
       ⟨none, none, (Op.store 126 (Operand.tmp 21) (Operand.tmp 20))⟩]))
   (.reg [⟨none, some 12, (Op.move (Operand.tmp 4))⟩,
      ⟨none, some 13, (Op.binOp BinOp.add 3 (Operand.tmp 12) (Operand.const (Value.int IntKind.i64 1)) 3)⟩,
      ⟨none, some 4, (Op.assign (Operand.tmp 13))⟩]))
def ac83 : ACode :=
  .seq (.reg [⟨none, some 2, (Op.assign (Operand.const (Value.slice none 0 0)))⟩])
  (.seq (.reg [⟨none, some 5, (Op.move (Operand.tmp 0))⟩,
      ⟨none, some 6, (Op.call ⟨(Callee.builtin Builtin.len), #[(Operand.tmp 5)], #[51]⟩)⟩,
      ⟨none, some 7, (Op.makeSlice 59 (Operand.tmp 6) (Operand.tmp 6))⟩,
      ⟨none, some 3, (Op.assign (Operand.tmp 7))⟩])
   (.seq (.seq (.reg [⟨none, some 4, (Op.assign (Operand.const (Value.int IntKind.i64 0)))⟩])
     (.block 0 (.loop ac83_l0)))
    (.seq (.reg [⟨none, some 22, (Op.move (Operand.tmp 3))⟩,
        ⟨none, some 2, (Op.assign (Operand.tmp 22))⟩])
     (.ret))))
theorem vc83 {args : List AV} {L : List (Nat × Ob)} {R : AV → List (Nat × Ob) → Prop} (ha : args.length ≤ 23) (hL : (L.map (·.1)).Nodup)
    (h : ev Go.Proofs.Tryd.prog ⟨23, L.map (·.1)⟩ ac83 (retQ Go.Proofs.Tryd.prog [(ResultVar.tmp 2)] R) ⟨argT args, hpOf L, Us.of (L.map (·.1))⟩) : ACall Go.Proofs.Tryd.prog 83 args L R :=
  acallA (by kernel_rfl) 23 [] [(ResultVar.tmp 2)] Go.Proofs.Tryd.func83 (by kernel_rfl) Go.Proofs.Tryd.ntmps83 (by kernel_rfl) ha hL (va_of_ev _ h)
theorem en83 : enters Go.Proofs.Tryd.prog 83 = true := by kernel_rfl
def ac31 : ACode :=
  .seq (.reg [⟨none, some 1, (Op.box 56 (Operand.tmp 0))⟩,
     ⟨none, some 2, (Op.alloc 63)⟩])
  (.seq (.reg [⟨none, some 3, (Op.alloc 63)⟩])
   (.seq (.reg [⟨none, some 4, (Op.fieldAddr 56 (Operand.tmp 1) 0)⟩,
       ⟨none, some 5, (Op.load 3 (Operand.tmp 4))⟩,
       ⟨none, some 6, (Op.fieldAddr 63 (Operand.tmp 3) 0)⟩,
       ⟨none, none, (Op.store 3 (Operand.tmp 6) (Operand.tmp 5))⟩])
    (.seq (.reg [⟨none, some 7, (Op.fieldAddr 56 (Operand.tmp 1) 1)⟩,
        ⟨none, some 8, (Op.load 51 (Operand.tmp 7))⟩,
        ⟨none, some 9, (Op.call ⟨(Callee.value (Operand.func 83)), #[(Operand.tmp 8)], #[51]⟩)⟩,
        ⟨none, some 10, (Op.fieldAddr 63 (Operand.tmp 3) 1)⟩,
        ⟨none, none, (Op.store 59 (Operand.tmp 10) (Operand.tmp 9))⟩])
     (.seq (.reg [⟨none, some 11, (Op.fieldAddr 56 (Operand.tmp 1) 2)⟩,
         ⟨none, some 12, (Op.load 52 (Operand.tmp 11))⟩,
         ⟨none, some 13, (Op.call ⟨(Callee.value (Operand.func 84)), #[(Operand.tmp 12)], #[52]⟩)⟩,
         ⟨none, some 14, (Op.fieldAddr 63 (Operand.tmp 3) 2)⟩,
         ⟨none, none, (Op.store 60 (Operand.tmp 14) (Operand.tmp 13))⟩])
      (.seq (.reg [⟨none, some 15, (Op.fieldAddr 56 (Operand.tmp 1) 3)⟩,
          ⟨none, some 16, (Op.load 53 (Operand.tmp 15))⟩,
          ⟨none, some 17, (Op.call ⟨(Callee.value (Operand.func 85)), #[(Operand.tmp 16)], #[53]⟩)⟩,
          ⟨none, some 18, (Op.fieldAddr 63 (Operand.tmp 3) 3)⟩,
          ⟨none, none, (Op.store 61 (Operand.tmp 18) (Operand.tmp 17))⟩])
       (.seq (.reg [⟨none, some 19, (Op.fieldAddr 56 (Operand.tmp 1) 4)⟩,
           ⟨none, some 20, (Op.load 4 (Operand.tmp 19))⟩,
           ⟨none, some 21, (Op.fieldAddr 63 (Operand.tmp 3) 4)⟩,
           ⟨none, none, (Op.store 4 (Operand.tmp 21) (Operand.tmp 20))⟩])
        (.seq (.reg [⟨none, some 22, (Op.fieldAddr 56 (Operand.tmp 1) 5)⟩,
            ⟨none, some 23, (Op.load 54 (Operand.tmp 22))⟩,
            ⟨none, some 24, (Op.call ⟨(Callee.value (Operand.func 86)), #[(Operand.tmp 23)], #[54]⟩)⟩,
            ⟨none, some 25, (Op.fieldAddr 63 (Operand.tmp 3) 5)⟩,
            ⟨none, none, (Op.store 54 (Operand.tmp 25) (Operand.tmp 24))⟩])
         (.seq (.reg [⟨none, some 26, (Op.fieldAddr 56 (Operand.tmp 1) 6)⟩,
             ⟨none, some 27, (Op.load 3 (Operand.tmp 26))⟩,
             ⟨none, some 28, (Op.fieldAddr 63 (Operand.tmp 3) 6)⟩,
             ⟨none, none, (Op.store 3 (Operand.tmp 28) (Operand.tmp 27))⟩])
          (.seq (.reg [⟨none, some 29, (Op.load 63 (Operand.tmp 3))⟩,
              ⟨none, none, (Op.store 63 (Operand.tmp 2) (Operand.tmp 29))⟩])
           (.ret))))))))))
theorem vc31 {args : List AV} {L : List (Nat × Ob)} {R : AV → List (Nat × Ob) → Prop} (ha : args.length ≤ 30) (hL : (L.map (·.1)).Nodup)
    (h : ev Go.Proofs.Tryd.prog ⟨30, L.map (·.1)⟩ ac31 (retQ Go.Proofs.Tryd.prog [(ResultVar.cell 2 63)] R) ⟨argT args, hpOf L, Us.of (L.map (·.1))⟩) : ACall Go.Proofs.Tryd.prog 31 args L R :=
  acallA (by kernel_rfl) 30 [] [(ResultVar.cell 2 63)] Go.Proofs.Tryd.func31 (by kernel_rfl) Go.Proofs.Tryd.ntmps31 (by kernel_rfl) ha hL (va_of_ev _ h)
end Go.Av.F
end
section
namespace Go.Av.F
open Go Go.Av
set_option linter.unusedSimpArgs false
set_option linter.unusedVariables false
set_option maxRecDepth 100000
attribute [local simp] tt3 tt4 tt9 tt51 tt52 tt53 tt54 tt56 tt177 tt185 tt174 tt175 tt61 tt123 tt60 tt113
theorem toPtrC (p : PT) : ACall Go.Proofs.Tryd.prog 146 [.agg p.row] [] (fun r L' => r = .agg p.row ∧ L' = []) := by
  apply vc146 (by simp) (by simp)
  simp [ac146, PT.row]
theorem toDdtC (p : DE) : ACall Go.Proofs.Tryd.prog 145 [.agg p.row] [] (fun r L' => r = .agg p.row ∧ L' = []) := by
  apply vc145 (by simp) (by simp)
  simp [ac145, DE.row]
def fillB (l : List (List AV)) (z : List AV) (i : Nat) : List (List AV) := l.take i ++ List.replicate (l.length - i) z
theorem fill_len (l : List (List AV)) (z : List AV) (i : Nat) (h : i ≤ l.length) : (fillB l z i).length = l.length := by simp [fillB]; omega
theorem fill_zero (l : List (List AV)) (z : List AV) : fillB l z 0 = List.replicate l.length z := by simp [fillB]
theorem fill_all (l : List (List AV)) (z : List AV) : fillB l z l.length = l := by simp [fillB]
theorem fill_set {l : List (List AV)} {z x : List AV} {i : Nat} (h : l[i]? = some x) : (fillB l z i).set i x = fillB l z (i + 1) := by
  obtain ⟨hi, rfl⟩ := List.getElem?_eq_some_iff.1 h
  apply List.ext_getElem?
  intro j
  unfold fillB
  rw [List.getElem?_set]
  have hl : (l.take i).length = i := by simp; omega
  have hl1 : (l.take (i + 1)).length = i + 1 := by simp; omega
  split
  · rename_i e; subst e
    rw [if_pos (by simp; omega), List.getElem?_append_left (by omega), List.getElem?_take_of_lt (by omega), h]
  · rename_i e
    rcases Nat.lt_trichotomy j i with hj | hj | hj
    · rw [List.getElem?_append_left (by omega), List.getElem?_append_left (by omega), List.getElem?_take_of_lt hj, List.getElem?_take_of_lt (by omega)]
    · exact absurd hj.symm e
    · rw [List.getElem?_append_right (by omega), List.getElem?_append_right (by omega), List.getElem?_replicate, List.getElem?_replicate, hl, hl1]
      by_cases k : j < l.length
      · rw [if_pos (by omega), if_pos (by omega)]
      · rw [if_neg (by omega), if_neg (by omega)]
theorem fill_get (l : List (List AV)) (z : List AV) (i : Nat) (h : i < l.length) : (fillB l z i)[i]? = some z := by
  unfold fillB
  rw [List.getElem?_append_right (by simp; omega), List.getElem?_replicate, if_pos (by simp; omega)]
theorem clR_fill {l : List (List AV)} {z : List AV} (i : Nat) (h1 : clR l = true) (h2 : clL z = true) : clR (fillB l z i) = true := by
  refine clR_app (clR_take _ h1) ?_
  simp only [clR, List.all_eq_true]
  intro x hx
  obtain ⟨_, rfl⟩ := List.mem_replicate.1 hx
  exact h2
theorem clR_map {α : Type} (f : α → List AV) (h : ∀ a, clL (f a) = true) (l : List α) : clR (l.map f) = true := by
  unfold clR
  rw [List.all_map, List.all_eq_true]
  intro b _
  exact h b
def zPt : List AV := [.int .i64 0, .int .i64 0, .int .i64 0]
def tpSt (l : List PT) (i : Nat) : S := ⟨mkT [(0, .lst 3 (l.map PT.row)), (3, .sl 7 0 l.length), (4, .int .i64 i)], hpOf [(7, ⟨3, fillB (l.map PT.row) zPt i⟩)], Us.of [7]⟩
theorem toPtrSC (l : List PT) (hl : l.length ≤ 1048576) : ACall Go.Proofs.Tryd.prog 85 [.lst 3 (l.map PT.row)] [] (fun r L' => r = .sl 7 0 l.length ∧ L' = [(7, ⟨3, l.map PT.row⟩)]) := by
  apply vc85 (by simp) (by simp)
  simp [ac85]
  refine ⟨by omega, ?_⟩
  refine ev_loopX (X := Nat) [0, 3, 4] (tpSt l) (fun i => l.length - i) (fun i => i ≤ l.length) 0 ⟨by simp, [(7, 7)], by simp [canonOk], by simp [canon, obOf, tpSt, fill_zero, zPt]⟩ ?_
  intro i hi
  by_cases h1 : i < l.length
  · obtain ⟨x, e0⟩ : ∃ x, l[i] = x := ⟨_, rfl⟩
    have e1 : l[i]? = some x := by rw [← e0]; exact List.getElem?_eq_getElem h1
    have e2 : IntKind.i64.wrap ((i : Int) + 1) = ((i + 1 : Nat) : Int) := by rw [i64_in' _ (by omega)]; omega
    have hfl := fill_len (l.map PT.row) zPt i (by simp; omega)
    have hfg := fill_get (l.map PT.row) zPt i (by simpa using h1)
    have hfs := fill_set (l := l.map PT.row) (z := zPt) (x := x.row) (i := i) (by simp [e1])
    have hx : x.row.length = 3 := rfl
    have hx2 : x.row.take 3 = x.row := rfl
    simp [ac85_l0, tpSt, h1, e0, e1, hx, hx2]
    refine callA_val en146 (toPtrC x) (by simp [PT.row]) (by simp [PT.row]) ?_
    have hcl : clR (l.map PT.row) = true := clR_map PT.row (fun a => by simp [PT.row, clL, clA]) l
    have hren : ∀ ρ, (fillB (l.map PT.row) zPt (i + 1)).map (renL ρ) = fillB (l.map PT.row) zPt (i + 1) := fun ρ => map_cl ρ (clR_fill (i + 1) hcl (by simp [zPt]))
    have hg0 : (fillB (l.map PT.row) zPt i)[i]'(by rw [hfl]; simpa using h1) = zPt := (List.getElem?_eq_some_iff.1 hfg).2
    have hd : x.row ++ List.drop x.row.length zPt = x.row := by simp [hx, zPt]
    simp [hfl, hfg, h1]
    refine ⟨⟨rfl, fun y hy => by simp only [PT.row, List.mem_cons, List.not_mem_nil, or_false] at hy; rcases hy with rfl | rfl | rfl <;> rfl⟩, ?_⟩
    rw [hg0, hd, hfs]
    exact nextX_of (i + 1) (by omega) (by omega) [(7, 7)] (by simp [canonOk]) (by simp [canon, obOf, tpSt, e2, hren])
  · have : i = l.length := by omega
    subst this
    have := fill_all (l.map PT.row) zPt
    simp at this
    simp [ac85_l0, tpSt, this]
def tdSt (l : List DE) (i : Nat) : S := ⟨mkT [(0, .lst 3 (l.map DE.row)), (3, .sl 7 0 l.length), (4, .int .i64 i)], hpOf [(7, ⟨3, fillB (l.map DE.row) zPt i⟩)], Us.of [7]⟩
theorem toDdtSC (l : List DE) (hl : l.length ≤ 1048576) : ACall Go.Proofs.Tryd.prog 84 [.lst 3 (l.map DE.row)] [] (fun r L' => r = .sl 7 0 l.length ∧ L' = [(7, ⟨3, l.map DE.row⟩)]) := by
  apply vc84 (by simp) (by simp)
  simp [ac84]
  refine ⟨by omega, ?_⟩
  refine ev_loopX (X := Nat) [0, 3, 4] (tdSt l) (fun i => l.length - i) (fun i => i ≤ l.length) 0 ⟨by simp, [(7, 7)], by simp [canonOk], by simp [canon, obOf, tdSt, fill_zero, zPt]⟩ ?_
  intro i hi
  by_cases h1 : i < l.length
  · obtain ⟨x, e0⟩ : ∃ x, l[i] = x := ⟨_, rfl⟩
    have e1 : l[i]? = some x := by rw [← e0]; exact List.getElem?_eq_getElem h1
    have e2 : IntKind.i64.wrap ((i : Int) + 1) = ((i + 1 : Nat) : Int) := by rw [i64_in' _ (by omega)]; omega
    have hfl := fill_len (l.map DE.row) zPt i (by simp; omega)
    have hfg := fill_get (l.map DE.row) zPt i (by simpa using h1)
    have hfs := fill_set (l := l.map DE.row) (z := zPt) (x := x.row) (i := i) (by simp [e1])
    have hx : x.row.length = 3 := rfl
    have hx2 : x.row.take 3 = x.row := rfl
    simp [ac84_l0, tdSt, h1, e0, e1, hx, hx2]
    refine callA_val en145 (toDdtC x) (by simp [DE.row]) (by simp [DE.row]) ?_
    have hcl : clR (l.map DE.row) = true := clR_map DE.row (fun a => by simp [DE.row, clL, clA]) l
    have hren : ∀ ρ, (fillB (l.map DE.row) zPt (i + 1)).map (renL ρ) = fillB (l.map DE.row) zPt (i + 1) := fun ρ => map_cl ρ (clR_fill (i + 1) hcl (by simp [zPt]))
    have hg0 : (fillB (l.map DE.row) zPt i)[i]'(by rw [hfl]; simpa using h1) = zPt := (List.getElem?_eq_some_iff.1 hfg).2
    have hd : x.row ++ List.drop x.row.length zPt = x.row := by simp [hx, zPt]
    simp [hfl, hfg, h1]
    refine ⟨⟨rfl, fun y hy => by simp only [DE.row, List.mem_cons, List.not_mem_nil, or_false] at hy; rcases hy with rfl | rfl | rfl <;> rfl⟩, ?_⟩
    rw [hg0, hd, hfs]
    exact nextX_of (i + 1) (by omega) (by omega) [(7, 7)] (by simp [canonOk]) (by simp [canon, obOf, tdSt, e2, hren])
  · have : i = l.length := by omega
    subst this
    have := fill_all (l.map DE.row) zPt
    simp at this
    simp [ac84_l0, tdSt, this]
def zInt : List AV := [.int .i64 0]
def tiSt (l : List Int) (i : Nat) : S := ⟨mkT [(0, .lst 1 (l.map intRow)), (3, .sl 7 0 l.length), (4, .int .i64 i)], hpOf [(7, ⟨1, fillB (l.map intRow) zInt i⟩)], Us.of [7]⟩
theorem toIntSC (l : List Int) (hl : l.length ≤ 1048576) : ACall Go.Proofs.Tryd.prog 86 [.lst 1 (l.map intRow)] [] (fun r L' => r = .sl 7 0 l.length ∧ L' = [(7, ⟨1, l.map intRow⟩)]) := by
  apply vc86 (by simp) (by simp)
  simp [ac86]
  refine ⟨by omega, ?_⟩
  refine ev_loopX (X := Nat) [0, 3, 4] (tiSt l) (fun i => l.length - i) (fun i => i ≤ l.length) 0 ⟨by simp, [(7, 7)], by simp [canonOk], by simp [canon, obOf, tiSt, fill_zero, zInt]⟩ ?_
  intro i hi
  by_cases h1 : i < l.length
  · obtain ⟨x, e0⟩ : ∃ x, l[i] = x := ⟨_, rfl⟩
    have e1 : l[i]? = some x := by rw [← e0]; exact List.getElem?_eq_getElem h1
    have e2 : IntKind.i64.wrap ((i : Int) + 1) = ((i + 1 : Nat) : Int) := by rw [i64_in' _ (by omega)]; omega
    have hfl := fill_len (l.map intRow) zInt i (by simp; omega)
    have hfg := fill_get (l.map intRow) zInt i (by simpa using h1)
    have hfs := fill_set (l := l.map intRow) (z := zInt) (x := intRow x) (i := i) (by simp [e1])
    have hx : (intRow x).length = 1 := rfl
    have hx2 : intRow x = [.int .i64 x] := rfl
    have hcl : clR (l.map intRow) = true := clR_map intRow (fun a => by simp [intRow, clL, clA]) l
    have hren : ∀ ρ, (fillB (l.map intRow) zInt (i + 1)).map (renL ρ) = fillB (l.map intRow) zInt (i + 1) := fun ρ => map_cl ρ (clR_fill (i + 1) hcl (by simp [zInt]))
    have hg0 : (fillB (l.map intRow) zInt i)[i]'(by rw [hfl]; simpa using h1) = zInt := (List.getElem?_eq_some_iff.1 hfg).2
    have hzt : zInt.tail = [] := rfl
    have hzl : zInt.length = 1 := rfl
    have hfl' : (fillB (l.map intRow) zInt i).length = l.length := by rw [hfl]; simp
    rw [hx2] at hfs
    simp [ac86_l0, tiSt, h1, e0, e1, hx, hx2, hfl', hfg, hg0, hzt, hzl, hfs]
    exact nextX_of (i + 1) (by omega) (by omega) [(7, 7)] (by simp [canonOk]) (by simp [canon, obOf, tiSt, e2, hren])
  · have : i = l.length := by omega
    subst this
    have := fill_all (l.map intRow) zInt
    simp at this
    simp [ac86_l0, tiSt, this]
end Go.Av.F
end
section
namespace Go.Av.F
open Go Go.Av
set_option linter.unusedSimpArgs false
set_option linter.unusedVariables false
set_option maxRecDepth 100000
attribute [local simp] tt126 tt59 tt63 tt62
attribute [local simp] tt3 tt4 tt9 tt51 tt52 tt53 tt54 tt56 tt177 tt185 tt174 tt175 tt61 tt123 tt60 tt113 tt124
def a8St (l : List PT) (i : Nat) : S :=
  ⟨mkT [(1, .ptr 1 0 0), (2, .ptr 2 0 0), (3, .ptr 3 0 0), (4, .int .i64 i)], hpOf [(1, ⟨24, [l.flatMap PT.row]⟩), (2, ⟨24, [List.replicate 24 (.int .i64 0)]⟩), (3, ⟨24, [(l.take i).flatMap PT.row ++ List.replicate (24 - 3 * i) (.int .i64 0)]⟩)], Us.of [1, 2, 3]⟩
theorem toA8C (p0 p1 p2 p3 p4 p5 p6 p7 : PT) : ACall Go.Proofs.Tryd.prog 189 [.agg ([p0, p1, p2, p3, p4, p5, p6, p7].flatMap PT.row)] [] (fun r L' => r = .agg ([p0, p1, p2, p3, p4, p5, p6, p7].flatMap PT.row) ∧ L' = []) := by
  apply vc189 (by simp) (by simp)
  simp [ac189, PT.row]
  refine ev_loopX (X := Nat) [1, 2, 3, 4] (a8St [p0, p1, p2, p3, p4, p5, p6, p7]) (fun i => 8 - i) (fun i => i ≤ 8) 0 ⟨by simp, [(1, 1), (2, 2), (3, 3)], by simp [canonOk], by simp [canon, obOf, a8St, PT.row]⟩ ?_
  intro i hi
  have hw : ∀ k : Nat, k ≤ 8 → IntKind.i64.wrap ((k : Int) + 1) = (k : Int) + 1 := fun k hk => i64_in' _ (by omega)
  have hc : i = 0 ∨ i = 1 ∨ i = 2 ∨ i = 3 ∨ i = 4 ∨ i = 5 ∨ i = 6 ∨ i = 7 ∨ i = 8 := by omega
  rcases hc with rfl | rfl | rfl | rfl | rfl | rfl | rfl | rfl | rfl
  · simp [ac189_l0, a8St, PT.row]
    refine callA_val en146 (toPtrC p0) (by simp [PT.row]) (by simp [PT.row]) ?_
    simp [PT.row]
    have w1 : IntKind.i64.wrap 1 = 1 := by decide
    exact nextX_of 1 (by omega) (by omega) [(1, 1), (2, 2), (3, 3)] (by simp [canonOk]) (by simp [canon, obOf, a8St, PT.row, w1])
  · simp [ac189_l0, a8St, PT.row]
    refine callA_val en146 (toPtrC p1) (by simp [PT.row]) (by simp [PT.row]) ?_
    simp [PT.row]
    have w2 : IntKind.i64.wrap 2 = 2 := by decide
    exact nextX_of 2 (by omega) (by omega) [(1, 1), (2, 2), (3, 3)] (by simp [canonOk]) (by simp [canon, obOf, a8St, PT.row, w2])
  · simp [ac189_l0, a8St, PT.row]
    refine callA_val en146 (toPtrC p2) (by simp [PT.row]) (by simp [PT.row]) ?_
    simp [PT.row]
    have w3 : IntKind.i64.wrap 3 = 3 := by decide
    exact nextX_of 3 (by omega) (by omega) [(1, 1), (2, 2), (3, 3)] (by simp [canonOk]) (by simp [canon, obOf, a8St, PT.row, w3])
  · simp [ac189_l0, a8St, PT.row]
    refine callA_val en146 (toPtrC p3) (by simp [PT.row]) (by simp [PT.row]) ?_
    simp [PT.row]
    have w4 : IntKind.i64.wrap 4 = 4 := by decide
    exact nextX_of 4 (by omega) (by omega) [(1, 1), (2, 2), (3, 3)] (by simp [canonOk]) (by simp [canon, obOf, a8St, PT.row, w4])
  · simp [ac189_l0, a8St, PT.row]
    refine callA_val en146 (toPtrC p4) (by simp [PT.row]) (by simp [PT.row]) ?_
    simp [PT.row]
    have w5 : IntKind.i64.wrap 5 = 5 := by decide
    exact nextX_of 5 (by omega) (by omega) [(1, 1), (2, 2), (3, 3)] (by simp [canonOk]) (by simp [canon, obOf, a8St, PT.row, w5])
  · simp [ac189_l0, a8St, PT.row]
    refine callA_val en146 (toPtrC p5) (by simp [PT.row]) (by simp [PT.row]) ?_
    simp [PT.row]
    have w6 : IntKind.i64.wrap 6 = 6 := by decide
    exact nextX_of 6 (by omega) (by omega) [(1, 1), (2, 2), (3, 3)] (by simp [canonOk]) (by simp [canon, obOf, a8St, PT.row, w6])
  · simp [ac189_l0, a8St, PT.row]
    refine callA_val en146 (toPtrC p6) (by simp [PT.row]) (by simp [PT.row]) ?_
    simp [PT.row]
    have w7 : IntKind.i64.wrap 7 = 7 := by decide
    exact nextX_of 7 (by omega) (by omega) [(1, 1), (2, 2), (3, 3)] (by simp [canonOk]) (by simp [canon, obOf, a8St, PT.row, w7])
  · simp [ac189_l0, a8St, PT.row]
    refine callA_val en146 (toPtrC p7) (by simp [PT.row]) (by simp [PT.row]) ?_
    simp [PT.row]
    have w8 : IntKind.i64.wrap 8 = 8 := by decide
    exact nextX_of 8 (by omega) (by omega) [(1, 1), (2, 2), (3, 3)] (by simp [canonOk]) (by simp [canon, obOf, a8St, PT.row, w8])
  · simp [ac189_l0, a8St, PT.row]
theorem eight (l : List PT) (h : l.length = 8) : ∃ p0 p1 p2 p3 p4 p5 p6 p7, l = [p0, p1, p2, p3, p4, p5, p6, p7] := by
  match l, h with
  | [a, b, c, d, e, f, g, i], _ => exact ⟨a, b, c, d, e, f, g, i, rfl⟩
theorem toCsC (s : CS) (h8 : s.map.length = 8) : ACall Go.Proofs.Tryd.prog 144 [.agg s.row] [] (fun r L' => r = .agg s.row ∧ L' = []) := by
  obtain ⟨nm, kd, fr, mp, hm, dt⟩ := s
  simp only at h8
  obtain ⟨p0, p1, p2, p3, p4, p5, p6, p7, rfl⟩ := eight mp h8
  apply vc144 (by simp) (by simp)
  simp [ac144, CS.row, PT.row]
  refine callA_val en189 (toA8C p0 p1 p2 p3 p4 p5 p6 p7) (by simp [PT.row]) (by simp [PT.row]) ?_
  simp [PT.row]
  refine callA_val en146 (toPtrC hm) (by simp [PT.row]) (by simp [PT.row]) ?_
  simp [PT.row]
def zCs : List AV := .str [] :: .int .i64 0 :: .str [] :: (List.replicate 27 (.int .i64 0) ++ [.bool false])
theorem zCs_cl : clL zCs = true := by decide
def tsSt (l : List CS) (i : Nat) : S := ⟨mkT [(0, .lst 31 (l.map CS.row)), (3, .sl 7 0 l.length), (4, .int .i64 i)], hpOf [(7, ⟨31, fillB (l.map CS.row) zCs i⟩)], Us.of [7]⟩
theorem toCsSC (l : List CS) (hl : l.length ≤ 1048576) (h8 : ∀ s ∈ l, s.map.length = 8) : ACall Go.Proofs.Tryd.prog 83 [.lst 31 (l.map CS.row)] [] (fun r L' => r = .sl 7 0 l.length ∧ L' = [(7, ⟨31, l.map CS.row⟩)]) := by
  apply vc83 (by simp) (by simp)
  simp [ac83]
  refine ⟨by omega, ?_⟩
  refine ev_loopX (X := Nat) [0, 3, 4] (tsSt l) (fun i => l.length - i) (fun i => i ≤ l.length) 0 ⟨by simp, [(7, 7)], by simp [canonOk], by simp [canon, obOf, tsSt, fill_zero, zCs]⟩ ?_
  intro i hi
  by_cases h1 : i < l.length
  · obtain ⟨x, e0⟩ : ∃ x, l[i] = x := ⟨_, rfl⟩
    have e1 : l[i]? = some x := by rw [← e0]; exact List.getElem?_eq_getElem h1
    have e2 : IntKind.i64.wrap ((i : Int) + 1) = ((i + 1 : Nat) : Int) := by rw [i64_in' _ (by omega)]; omega
    have hfl := fill_len (l.map CS.row) zCs i (by simp; omega)
    have hfg := fill_get (l.map CS.row) zCs i (by simpa using h1)
    have hfs := fill_set (l := l.map CS.row) (z := zCs) (x := x.row) (i := i) (by simp [e1])
    have hx8 := h8 x (List.mem_of_getElem? e1)
    have hx : x.row.length = 31 := cs_len x hx8
    have hx2 : x.row.take 31 = x.row := cs_take x hx8
    simp [ac83_l0, tsSt, h1, e0, e1, hx, hx2]
    refine callA_val en144 (toCsC x hx8) (by simp [cs_cl]) (by simp [cs_cl]) ?_
    have hcl : clR (l.map CS.row) = true := clR_map CS.row cs_cl l
    have hren : ∀ ρ, (fillB (l.map CS.row) zCs (i + 1)).map (renL ρ) = fillB (l.map CS.row) zCs (i + 1) := fun ρ => map_cl ρ (clR_fill (i + 1) hcl zCs_cl)
    have hg0 : (fillB (l.map CS.row) zCs i)[i]'(by rw [hfl]; simpa using h1) = zCs := (List.getElem?_eq_some_iff.1 hfg).2
    have hd : x.row ++ List.drop x.row.length zCs = x.row := by simp [hx, zCs]
    simp [hfl, hfg, h1]
    refine ⟨⟨hx, oneA_cs x⟩, ?_⟩
    rw [hg0, hd, hfs]
    exact nextX_of (i + 1) (by omega) (by omega) [(7, 7)] (by simp [canonOk]) (by simp [canon, obOf, tsSt, e2, hren])
  · have : i = l.length := by omega
    subst this
    have := fill_all (l.map CS.row) zCs
    simp at this
    simp [ac83_l0, tsSt, this]
theorem frzP {f : Nat} {args : List AV} {sz : Nat} {rows : List (List AV)} {n : Nat} (hn : n = rows.length) (hcl : clR rows = true) (h : ACall Go.Proofs.Tryd.prog f args [] (fun r L' => r = .sl 7 0 n ∧ L' = [(7, ⟨sz, rows⟩)])) : ACall Go.Proofs.Tryd.prog f args [] (fun r L' => r = .lst sz rows ∧ L' = []) := by
  refine h.frz ?_
  rintro r L' ⟨rfl, rfl⟩
  refine ⟨7, ⟨sz, rows⟩, rfl, hcl, ?_, rfl⟩
  subst hn
  simp
theorem pt_cl (p : PT) : clL p.row = true := by simp [PT.row, clL, clA]
theorem de_cl (p : DE) : clL p.row = true := by simp [DE.row, clL, clA]
theorem int_cl (p : Int) : clL (intRow p) = true := by simp [intRow, clL, clA]
theorem toCoreC (c : CO) (hg : CoG c) (hs : CoS c) : ACall Go.Proofs.Tryd.prog 31 [.agg c.row] [] (fun r L' => r = .agg c.row ∧ L' = []) := by
  obtain ⟨_, g2, _⟩ := hg
  obtain ⟨s1, s2, s3, s4, _⟩ := hs
  apply vc31 (by simp) (by simp)
  simp [ac31, CO.row]
  refine callA_val en83 (frzP (by simp) (clR_map CS.row cs_cl c.sets) (toCsSC c.sets s1 fun s h => (g2 s h).2.1)) (by simp) (by simp) ?_
  simp
  refine callA_val en84 (frzP (by simp) (clR_map DE.row de_cl c.ddt) (toDdtSC c.ddt s2)) (by simp) (by simp) ?_
  simp
  refine callA_val en85 (frzP (by simp) (clR_map PT.row pt_cl c.parts) (toPtrSC c.parts s3)) (by simp) (by simp) ?_
  simp
  refine callA_val en86 (frzP (by simp) (clR_map intRow int_cl c.safe) (toIntSC c.safe s4)) (by simp) (by simp) ?_
  simp
end Go.Av.F
end
section
namespace Go.Av.F
open Go Go.Av
set_option maxRecDepth 100000
set_option linter.constructorNameAsVariable false
def ac91_l0 : ACode :=
  .seq (.seq (.reg [⟨none, some 11, (Op.move (Operand.tmp 5))⟩,
      ⟨none, some 12, (Op.move (Operand.tmp 0))⟩,
      ⟨none, some 13, (Op.call ⟨(Callee.builtin Builtin.len), #[(Operand.tmp 12)], #[54]⟩)⟩,
      ⟨none, some 14, (Op.binOp BinOp.lss 3 (Operand.tmp 11) (Operand.tmp 13) 3)⟩])
   (.cond (Operand.tmp 14) (.skip) (.exit 0)))
  (.seq (.block 1 (.seq (.draw [⟨⟨none, some 17, (Op.move (Operand.tmp 0))⟩, [], [], []⟩,
        ⟨⟨none, some 18, (Op.move (Operand.tmp 5))⟩, [], [], []⟩,
        ⟨⟨none, some 19, (Op.indexAddr 54 (Operand.tmp 17) (Operand.tmp 18))⟩, [], [], []⟩,
        ⟨⟨none, some 20, (Op.load 3 (Operand.tmp 19))⟩, [], [], []⟩,
        ⟨⟨none, some 21, (Op.move (Operand.tmp 1))⟩, [], [], []⟩,
        ⟨⟨none, some 22, (Op.move (Operand.tmp 5))⟩, [], [], []⟩,
        ⟨⟨none, some 23, (Op.indexAddr 54 (Operand.tmp 21) (Operand.tmp 22))⟩, [], [], []⟩,
        ⟨⟨none, some 24, (Op.load 3 (Operand.tmp 23))⟩, [], [], []⟩,
        ⟨⟨none, some 25, (Op.binOp BinOp.neq 3 (Operand.tmp 20) (Operand.tmp 24) 3)⟩, [], [], []⟩])
     (.cond (Operand.tmp 25) (.seq (.reg [⟨none, some 4, (Op.assign (Operand.const (Value.bool false)))⟩])
       (.ret)) (.skip))))
   (.reg [⟨none, some 15, (Op.move (Operand.tmp 5))⟩,
      ⟨none, some 16, (Op.binOp BinOp.add 3 (Operand.tmp 15) (Operand.const (Value.int IntKind.i64 1)) 3)⟩,
      ⟨none, some 5, (Op.assign (Operand.tmp 16))⟩]))
def ac91 : ACode :=
  .seq (.reg [⟨none, some 4, (Op.assign (Operand.const (Value.bool false)))⟩])
  (.seq (.seq (.reg [⟨none, some 6, (Op.move (Operand.tmp 0))⟩,
       ⟨none, some 7, (Op.call ⟨(Callee.builtin Builtin.len), #[(Operand.tmp 6)], #[54]⟩)⟩,
       ⟨none, some 8, (Op.move (Operand.tmp 1))⟩,
       ⟨none, some 9, (Op.call ⟨(Callee.builtin Builtin.len), #[(Operand.tmp 8)], #[54]⟩)⟩,
       ⟨none, some 10, (Op.binOp BinOp.neq 3 (Operand.tmp 7) (Operand.tmp 9) 3)⟩])
    (.cond (Operand.tmp 10) (.seq (.reg [⟨none, some 4, (Op.assign (Operand.const (Value.bool false)))⟩])
      (.ret)) (.skip)))
   (.seq (.seq (.reg [⟨none, some 5, (Op.assign (Operand.const (Value.int IntKind.i64 0)))⟩])
     (.block 0 (.loop ac91_l0)))
    (.seq (.reg [⟨none, some 4, (Op.assign (Operand.const (Value.bool true)))⟩])
     (.ret))))
theorem vc91 {args : List AV} {L : List (Nat × Ob)} {R : AV → List (Nat × Ob) → Prop} (ha : args.length ≤ 26) (hL : (L.map (·.1)).Nodup)
    (h : ev Go.Proofs.Tryd.prog ⟨26, L.map (·.1)⟩ ac91 (retQ Go.Proofs.Tryd.prog [(ResultVar.tmp 4)] R) ⟨argT args, hpOf L, Us.of (L.map (·.1))⟩) : ACall Go.Proofs.Tryd.prog 91 args L R :=
  acallA (by kernel_rfl) 26 [(6, [⟨0, [], [], [], [2, 3, 8]⟩, ⟨1, [], [], [], [2, 3, 8]⟩, ⟨2, [], [], [], [3, 8]⟩, ⟨3, [], [], [], [8]⟩, ⟨4, [], [], [], [6, 7, 8]⟩, ⟨5, [], [], [], [6, 7, 8]⟩, ⟨6, [], [], [], [7, 8]⟩, ⟨7, [], [], [], [8]⟩, ⟨8, [], [], [], []⟩])] [(ResultVar.tmp 4)] Go.Proofs.Tryd.func91 (by kernel_rfl) Go.Proofs.Tryd.ntmps91 (by kernel_rfl) ha hL (va_of_ev _ h)
theorem en91 : enters Go.Proofs.Tryd.prog 91 = true := by kernel_rfl
def ac158 : ACode :=
  .seq (.reg [⟨none, some 2, (Op.box 123 (Operand.tmp 0))⟩,
     ⟨none, some 3, (Op.box 123 (Operand.tmp 1))⟩,
     ⟨none, some 4, (Op.assign (Operand.const (Value.bool false)))⟩])
  (.seq (.seq (.reg [⟨none, some 5, (Op.fieldAddr 123 (Operand.tmp 2) 0)⟩,
       ⟨none, some 6, (Op.load 3 (Operand.tmp 5))⟩,
       ⟨none, some 7, (Op.fieldAddr 123 (Operand.tmp 3) 0)⟩,
       ⟨none, some 8, (Op.load 3 (Operand.tmp 7))⟩,
       ⟨none, some 9, (Op.binOp BinOp.neq 3 (Operand.tmp 6) (Operand.tmp 8) 3)⟩])
    (.cond (Operand.tmp 9) (.seq (.reg [⟨none, some 4, (Op.assign (Operand.const (Value.bool false)))⟩])
      (.ret)) (.skip)))
   (.seq (.seq (.reg [⟨none, some 10, (Op.fieldAddr 123 (Operand.tmp 2) 1)⟩,
        ⟨none, some 11, (Op.load 3 (Operand.tmp 10))⟩,
        ⟨none, some 12, (Op.fieldAddr 123 (Operand.tmp 3) 1)⟩,
        ⟨none, some 13, (Op.load 3 (Operand.tmp 12))⟩,
        ⟨none, some 14, (Op.binOp BinOp.neq 3 (Operand.tmp 11) (Operand.tmp 13) 3)⟩])
     (.cond (Operand.tmp 14) (.seq (.reg [⟨none, some 4, (Op.assign (Operand.const (Value.bool false)))⟩])
       (.ret)) (.skip)))
    (.seq (.seq (.reg [⟨none, some 15, (Op.fieldAddr 123 (Operand.tmp 2) 2)⟩,
         ⟨none, some 16, (Op.load 3 (Operand.tmp 15))⟩,
         ⟨none, some 17, (Op.fieldAddr 123 (Operand.tmp 3) 2)⟩,
         ⟨none, some 18, (Op.load 3 (Operand.tmp 17))⟩,
         ⟨none, some 19, (Op.binOp BinOp.neq 3 (Operand.tmp 16) (Operand.tmp 18) 3)⟩])
      (.cond (Operand.tmp 19) (.seq (.reg [⟨none, some 4, (Op.assign (Operand.const (Value.bool false)))⟩])
        (.ret)) (.skip)))
     (.seq (.reg [⟨none, some 4, (Op.assign (Operand.const (Value.bool true)))⟩])
      (.ret)))))
theorem vc158 {args : List AV} {L : List (Nat × Ob)} {R : AV → List (Nat × Ob) → Prop} (ha : args.length ≤ 20) (hL : (L.map (·.1)).Nodup)
    (h : ev Go.Proofs.Tryd.prog ⟨20, L.map (·.1)⟩ ac158 (retQ Go.Proofs.Tryd.prog [(ResultVar.tmp 4)] R) ⟨argT args, hpOf L, Us.of (L.map (·.1))⟩) : ACall Go.Proofs.Tryd.prog 158 args L R :=
  acallA (by kernel_rfl) 20 [] [(ResultVar.tmp 4)] Go.Proofs.Tryd.func158 (by kernel_rfl) Go.Proofs.Tryd.ntmps158 (by kernel_rfl) ha hL (va_of_ev _ h)
theorem en158 : enters Go.Proofs.Tryd.prog 158 = true := by kernel_rfl
def ac90_l0 : ACode :=
  .seq (.seq (.reg [⟨none, some 11, (Op.move (Operand.tmp 5))⟩,
      ⟨none, some 12, (Op.move (Operand.tmp 0))⟩,
      ⟨none, some 13, (Op.call ⟨(Callee.builtin Builtin.len), #[(Operand.tmp 12)], #[61]⟩)⟩,
      ⟨none, some 14, (Op.binOp BinOp.lss 3 (Operand.tmp 11) (Operand.tmp 13) 3)⟩])
   (.cond (Operand.tmp 14) (.skip) (.exit 0)))
  (.seq (.block 1 (.seq (.draw [⟨⟨none, some 17, (Op.move (Operand.tmp 0))⟩, [], [], []⟩,
        ⟨⟨none, some 18, (Op.move (Operand.tmp 5))⟩, [], [], []⟩,
        ⟨⟨none, some 19, (Op.indexAddr 61 (Operand.tmp 17) (Operand.tmp 18))⟩, [], [], []⟩,
        ⟨⟨none, some 20, (Op.load 123 (Operand.tmp 19))⟩, [], [], []⟩,
        ⟨⟨none, some 21, (Op.move (Operand.tmp 1))⟩, [], [], []⟩,
        ⟨⟨none, some 22, (Op.move (Operand.tmp 5))⟩, [], [], []⟩,
        ⟨⟨none, some 23, (Op.indexAddr 61 (Operand.tmp 21) (Operand.tmp 22))⟩, [], [], []⟩,
        ⟨⟨none, some 24, (Op.load 123 (Operand.tmp 23))⟩, [], [], []⟩,
        ⟨⟨none, some 25, (Op.call ⟨(Callee.value (Operand.func 158)), #[(Operand.tmp 20), (Operand.tmp 24)], #[123, 123]⟩)⟩, [], [], []⟩,
        ⟨⟨none, some 26, (Op.unOp UnOp.not 4 (Operand.tmp 25))⟩, [], [], []⟩])
     (.cond (Operand.tmp 26) (.seq (.reg [⟨none, some 4, (Op.assign (Operand.const (Value.bool false)))⟩])
       (.ret)) (.skip))))
   (.reg [⟨none, some 15, (Op.move (Operand.tmp 5))⟩,
      ⟨none, some 16, (Op.binOp BinOp.add 3 (Operand.tmp 15) (Operand.const (Value.int IntKind.i64 1)) 3)⟩,
      ⟨none, some 5, (Op.assign (Operand.tmp 16))⟩]))
def ac90 : ACode :=
  .seq (.reg [⟨none, some 4, (Op.assign (Operand.const (Value.bool false)))⟩])
  (.seq (.seq (.reg [⟨none, some 6, (Op.move (Operand.tmp 0))⟩,
       ⟨none, some 7, (Op.call ⟨(Callee.builtin Builtin.len), #[(Operand.tmp 6)], #[61]⟩)⟩,
       ⟨none, some 8, (Op.move (Operand.tmp 1))⟩,
       ⟨none, some 9, (Op.call ⟨(Callee.builtin Builtin.len), #[(Operand.tmp 8)], #[61]⟩)⟩,
       ⟨none, some 10, (Op.binOp BinOp.neq 3 (Operand.tmp 7) (Operand.tmp 9) 3)⟩])
    (.cond (Operand.tmp 10) (.seq (.reg [⟨none, some 4, (Op.assign (Operand.const (Value.bool false)))⟩])
      (.ret)) (.skip)))
   (.seq (.seq (.reg [⟨none, some 5, (Op.assign (Operand.const (Value.int IntKind.i64 0)))⟩])
     (.block 0 (.loop ac90_l0)))
    (.seq (.reg [⟨none, some 4, (Op.assign (Operand.const (Value.bool true)))⟩])
     (.ret))))
theorem vc90 {args : List AV} {L : List (Nat × Ob)} {R : AV → List (Nat × Ob) → Prop} (ha : args.length ≤ 27) (hL : (L.map (·.1)).Nodup)
    (h : ev Go.Proofs.Tryd.prog ⟨27, L.map (·.1)⟩ ac90 (retQ Go.Proofs.Tryd.prog [(ResultVar.tmp 4)] R) ⟨argT args, hpOf L, Us.of (L.map (·.1))⟩) : ACall Go.Proofs.Tryd.prog 90 args L R :=
  acallA (by kernel_rfl) 27 [(6, [⟨0, [], [], [], [2, 3, 8, 9]⟩, ⟨1, [], [], [], [2, 3, 8, 9]⟩, ⟨2, [], [], [], [3, 8, 9]⟩, ⟨3, [], [], [], [8, 9]⟩, ⟨4, [], [], [], [6, 7, 8, 9]⟩, ⟨5, [], [], [], [6, 7, 8, 9]⟩, ⟨6, [], [], [], [7, 8, 9]⟩, ⟨7, [], [], [], [8, 9]⟩, ⟨8, [], [], [], [9]⟩, ⟨9, [], [], [], []⟩])] [(ResultVar.tmp 4)] Go.Proofs.Tryd.func90 (by kernel_rfl) Go.Proofs.Tryd.ntmps90 (by kernel_rfl) ha hL (va_of_ev _ h)
theorem en90 : enters Go.Proofs.Tryd.prog 90 = true := by kernel_rfl
def ac157 : ACode :=
  .seq (.reg [⟨none, some 2, (Op.box 113 (Operand.tmp 0))⟩,
     ⟨none, some 3, (Op.box 113 (Operand.tmp 1))⟩,
     ⟨none, some 4, (Op.assign (Operand.const (Value.bool false)))⟩])
  (.seq (.seq (.reg [⟨none, some 5, (Op.fieldAddr 113 (Operand.tmp 2) 0)⟩,
       ⟨none, some 6, (Op.load 3 (Operand.tmp 5))⟩,
       ⟨none, some 7, (Op.fieldAddr 113 (Operand.tmp 3) 0)⟩,
       ⟨none, some 8, (Op.load 3 (Operand.tmp 7))⟩,
       ⟨none, some 9, (Op.binOp BinOp.neq 3 (Operand.tmp 6) (Operand.tmp 8) 3)⟩])
    (.cond (Operand.tmp 9) (.seq (.reg [⟨none, some 4, (Op.assign (Operand.const (Value.bool false)))⟩])
      (.ret)) (.skip)))
   (.seq (.seq (.reg [⟨none, some 10, (Op.fieldAddr 113 (Operand.tmp 2) 1)⟩,
        ⟨none, some 11, (Op.load 3 (Operand.tmp 10))⟩,
        ⟨none, some 12, (Op.fieldAddr 113 (Operand.tmp 3) 1)⟩,
        ⟨none, some 13, (Op.load 3 (Operand.tmp 12))⟩,
        ⟨none, some 14, (Op.binOp BinOp.neq 3 (Operand.tmp 11) (Operand.tmp 13) 3)⟩])
     (.cond (Operand.tmp 14) (.seq (.reg [⟨none, some 4, (Op.assign (Operand.const (Value.bool false)))⟩])
       (.ret)) (.skip)))
    (.seq (.seq (.reg [⟨none, some 15, (Op.fieldAddr 113 (Operand.tmp 2) 2)⟩,
         ⟨none, some 16, (Op.load 3 (Operand.tmp 15))⟩,
         ⟨none, some 17, (Op.fieldAddr 113 (Operand.tmp 3) 2)⟩,
         ⟨none, some 18, (Op.load 3 (Operand.tmp 17))⟩,
         ⟨none, some 19, (Op.binOp BinOp.neq 3 (Operand.tmp 16) (Operand.tmp 18) 3)⟩])
      (.cond (Operand.tmp 19) (.seq (.reg [⟨none, some 4, (Op.assign (Operand.const (Value.bool false)))⟩])
        (.ret)) (.skip)))
     (.seq (.reg [⟨none, some 4, (Op.assign (Operand.const (Value.bool true)))⟩])
      (.ret)))))
theorem vc157 {args : List AV} {L : List (Nat × Ob)} {R : AV → List (Nat × Ob) → Prop} (ha : args.length ≤ 20) (hL : (L.map (·.1)).Nodup)
    (h : ev Go.Proofs.Tryd.prog ⟨20, L.map (·.1)⟩ ac157 (retQ Go.Proofs.Tryd.prog [(ResultVar.tmp 4)] R) ⟨argT args, hpOf L, Us.of (L.map (·.1))⟩) : ACall Go.Proofs.Tryd.prog 157 args L R :=
  acallA (by kernel_rfl) 20 [] [(ResultVar.tmp 4)] Go.Proofs.Tryd.func157 (by kernel_rfl) Go.Proofs.Tryd.ntmps157 (by kernel_rfl) ha hL (va_of_ev _ h)
theorem en157 : enters Go.Proofs.Tryd.prog 157 = true := by kernel_rfl
def ac89_l0 : ACode :=
  .seq (.seq (.reg [⟨none, some 11, (Op.move (Operand.tmp 5))⟩,
      ⟨none, some 12, (Op.move (Operand.tmp 0))⟩,
      ⟨none, some 13, (Op.call ⟨(Callee.builtin Builtin.len), #[(Operand.tmp 12)], #[60]⟩)⟩,
      ⟨none, some 14, (Op.binOp BinOp.lss 3 (Operand.tmp 11) (Operand.tmp 13) 3)⟩])
   (.cond (Operand.tmp 14) (.skip) (.exit 0)))
  (.seq (.block 1 (.seq (.draw [⟨⟨none, some 17, (Op.move (Operand.tmp 0))⟩, [], [], []⟩,
        ⟨⟨none, some 18, (Op.move (Operand.tmp 5))⟩, [], [], []⟩,
        ⟨⟨none, some 19, (Op.indexAddr 60 (Operand.tmp 17) (Operand.tmp 18))⟩, [], [], []⟩,
        ⟨⟨none, some 20, (Op.load 113 (Operand.tmp 19))⟩, [], [], []⟩,
        ⟨⟨none, some 21, (Op.move (Operand.tmp 1))⟩, [], [], []⟩,
        ⟨⟨none, some 22, (Op.move (Operand.tmp 5))⟩, [], [], []⟩,
        ⟨⟨none, some 23, (Op.indexAddr 60 (Operand.tmp 21) (Operand.tmp 22))⟩, [], [], []⟩,
        ⟨⟨none, some 24, (Op.load 113 (Operand.tmp 23))⟩, [], [], []⟩,
        ⟨⟨none, some 25, (Op.call ⟨(Callee.value (Operand.func 157)), #[(Operand.tmp 20), (Operand.tmp 24)], #[113, 113]⟩)⟩, [], [], []⟩,
        ⟨⟨none, some 26, (Op.unOp UnOp.not 4 (Operand.tmp 25))⟩, [], [], []⟩])
     (.cond (Operand.tmp 26) (.seq (.reg [⟨none, some 4, (Op.assign (Operand.const (Value.bool false)))⟩])
       (.ret)) (.skip))))
   (.reg [⟨none, some 15, (Op.move (Operand.tmp 5))⟩,
      ⟨none, some 16, (Op.binOp BinOp.add 3 (Operand.tmp 15) (Operand.const (Value.int IntKind.i64 1)) 3)⟩,
      ⟨none, some 5, (Op.assign (Operand.tmp 16))⟩]))
def ac89 : ACode :=
  .seq (.reg [⟨none, some 4, (Op.assign (Operand.const (Value.bool false)))⟩])
  (.seq (.seq (.reg [⟨none, some 6, (Op.move (Operand.tmp 0))⟩,
       ⟨none, some 7, (Op.call ⟨(Callee.builtin Builtin.len), #[(Operand.tmp 6)], #[60]⟩)⟩,
       ⟨none, some 8, (Op.move (Operand.tmp 1))⟩,
       ⟨none, some 9, (Op.call ⟨(Callee.builtin Builtin.len), #[(Operand.tmp 8)], #[60]⟩)⟩,
       ⟨none, some 10, (Op.binOp BinOp.neq 3 (Operand.tmp 7) (Operand.tmp 9) 3)⟩])
    (.cond (Operand.tmp 10) (.seq (.reg [⟨none, some 4, (Op.assign (Operand.const (Value.bool false)))⟩])
      (.ret)) (.skip)))
   (.seq (.seq (.reg [⟨none, some 5, (Op.assign (Operand.const (Value.int IntKind.i64 0)))⟩])
     (.block 0 (.loop ac89_l0)))
    (.seq (.reg [⟨none, some 4, (Op.assign (Operand.const (Value.bool true)))⟩])
     (.ret))))
theorem vc89 {args : List AV} {L : List (Nat × Ob)} {R : AV → List (Nat × Ob) → Prop} (ha : args.length ≤ 27) (hL : (L.map (·.1)).Nodup)
    (h : ev Go.Proofs.Tryd.prog ⟨27, L.map (·.1)⟩ ac89 (retQ Go.Proofs.Tryd.prog [(ResultVar.tmp 4)] R) ⟨argT args, hpOf L, Us.of (L.map (·.1))⟩) : ACall Go.Proofs.Tryd.prog 89 args L R :=
  acallA (by kernel_rfl) 27 [(6, [⟨0, [], [], [], [2, 3, 8, 9]⟩, ⟨1, [], [], [], [2, 3, 8, 9]⟩, ⟨2, [], [], [], [3, 8, 9]⟩, ⟨3, [], [], [], [8, 9]⟩, ⟨4, [], [], [], [6, 7, 8, 9]⟩, ⟨5, [], [], [], [6, 7, 8, 9]⟩, ⟨6, [], [], [], [7, 8, 9]⟩, ⟨7, [], [], [], [8, 9]⟩, ⟨8, [], [], [], [9]⟩, ⟨9, [], [], [], []⟩])] [(ResultVar.tmp 4)] Go.Proofs.Tryd.func89 (by kernel_rfl) Go.Proofs.Tryd.ntmps89 (by kernel_rfl) ha hL (va_of_ev _ h)
theorem en89 : enters Go.Proofs.Tryd.prog 89 = true := by kernel_rfl
def ac195_l0 : ACode :=
  .seq (.seq (.reg [⟨none, some 6, (Op.move (Operand.tmp 5))⟩,
      ⟨none, some 7, (Op.binOp BinOp.lss 3 (Operand.tmp 6) (Operand.const (Value.int IntKind.i64 8)) 3)⟩])
   (.cond (Operand.tmp 7) (.skip) (.exit 0)))
  (.seq (.block 1 (.seq (.draw [⟨⟨none, some 10, (Op.move (Operand.tmp 5))⟩, [], [], []⟩,
        ⟨⟨none, some 11, (Op.indexAddr 124 (Operand.tmp 2) (Operand.tmp 10))⟩, [], [], []⟩,
        ⟨⟨none, some 12, (Op.load 123 (Operand.tmp 11))⟩, [2], [], []⟩,
        ⟨⟨none, some 13, (Op.move (Operand.tmp 5))⟩, [], [2], []⟩,
        ⟨⟨none, some 14, (Op.indexAddr 124 (Operand.tmp 3) (Operand.tmp 13))⟩, [], [2], []⟩,
        ⟨⟨none, some 15, (Op.load 123 (Operand.tmp 14))⟩, [3], [2], []⟩,
        ⟨⟨none, some 16, (Op.call ⟨(Callee.value (Operand.func 158)), #[(Operand.tmp 12), (Operand.tmp 15)], #[123, 123]⟩)⟩, [], [], []⟩,
        ⟨⟨none, some 17, (Op.unOp UnOp.not 4 (Operand.tmp 16))⟩, [], [], []⟩])
     (.cond (Operand.tmp 17) (.seq (.reg [⟨none, some 4, (Op.assign (Operand.const (Value.bool false)))⟩])
       (.ret)) (.skip))))
   (.reg [⟨none, some 8, (Op.move (Operand.tmp 5))⟩,
      ⟨none, some 9, (Op.binOp BinOp.add 3 (Operand.tmp 8) (Operand.const (Value.int IntKind.i64 1)) 3)⟩,
      ⟨none, some 5, (Op.assign (Operand.tmp 9))⟩]))
def ac195 : ACode :=
  .seq (.reg [⟨none, some 2, (Op.box 124 (Operand.tmp 0))⟩,
     ⟨none, some 3, (Op.box 124 (Operand.tmp 1))⟩,
     ⟨none, some 4, (Op.assign (Operand.const (Value.bool false)))⟩])
  (.seq (.seq (.reg [⟨none, some 5, (Op.assign (Operand.const (Value.int IntKind.i64 0)))⟩])
    (.block 0 (.loop ac195_l0)))
   (.seq (.reg [⟨none, some 4, (Op.assign (Operand.const (Value.bool true)))⟩])
    (.ret)))
theorem vc195 {args : List AV} {L : List (Nat × Ob)} {R : AV → List (Nat × Ob) → Prop} (ha : args.length ≤ 18) (hL : (L.map (·.1)).Nodup)
    (h : ev Go.Proofs.Tryd.prog ⟨18, L.map (·.1)⟩ ac195 (retQ Go.Proofs.Tryd.prog [(ResultVar.tmp 4)] R) ⟨argT args, hpOf L, Us.of (L.map (·.1))⟩) : ACall Go.Proofs.Tryd.prog 195 args L R :=
  acallA (by kernel_rfl) 18 [(4, [⟨0, [], [], [], [1, 2, 6, 7]⟩, ⟨1, [], [], [], [2, 6, 7]⟩, ⟨2, [2], [], [], [6, 7]⟩, ⟨3, [], [2], [], [4, 5, 6, 7]⟩, ⟨4, [], [2], [], [5, 6, 7]⟩, ⟨5, [3], [2], [], [6, 7]⟩, ⟨6, [], [], [], [7]⟩, ⟨7, [], [], [], []⟩])] [(ResultVar.tmp 4)] Go.Proofs.Tryd.func195 (by kernel_rfl) Go.Proofs.Tryd.ntmps195 (by kernel_rfl) ha hL (va_of_ev _ h)
theorem en195 : enters Go.Proofs.Tryd.prog 195 = true := by kernel_rfl
def ac156 : ACode :=
  .seq (.reg [⟨none, some 2, (Op.box 126 (Operand.tmp 0))⟩,
     ⟨none, some 3, (Op.box 126 (Operand.tmp 1))⟩,
     ⟨none, some 4, (Op.assign (Operand.const (Value.bool false)))⟩])
  (.seq (.seq (.reg [⟨none, some 5, (Op.fieldAddr 126 (Operand.tmp 2) 0)⟩,
       ⟨none, some 6, (Op.load 9 (Operand.tmp 5))⟩,
       ⟨none, some 7, (Op.fieldAddr 126 (Operand.tmp 3) 0)⟩,
       ⟨none, some 8, (Op.load 9 (Operand.tmp 7))⟩,
       ⟨none, some 9, (Op.binOp BinOp.neq 9 (Operand.tmp 6) (Operand.tmp 8) 9)⟩])
    (.cond (Operand.tmp 9) (.seq (.reg [⟨none, some 4, (Op.assign (Operand.const (Value.bool false)))⟩])
      (.ret)) (.skip)))
   (.seq (.seq (.reg [⟨none, some 10, (Op.fieldAddr 126 (Operand.tmp 2) 1)⟩,
        ⟨none, some 11, (Op.load 3 (Operand.tmp 10))⟩,
        ⟨none, some 12, (Op.fieldAddr 126 (Operand.tmp 3) 1)⟩,
        ⟨none, some 13, (Op.load 3 (Operand.tmp 12))⟩,
        ⟨none, some 14, (Op.binOp BinOp.neq 3 (Operand.tmp 11) (Operand.tmp 13) 3)⟩])
     (.cond (Operand.tmp 14) (.seq (.reg [⟨none, some 4, (Op.assign (Operand.const (Value.bool false)))⟩])
       (.ret)) (.skip)))
    (.seq (.seq (.reg [⟨none, some 15, (Op.fieldAddr 126 (Operand.tmp 2) 2)⟩,
         ⟨none, some 16, (Op.load 9 (Operand.tmp 15))⟩,
         ⟨none, some 17, (Op.fieldAddr 126 (Operand.tmp 3) 2)⟩,
         ⟨none, some 18, (Op.load 9 (Operand.tmp 17))⟩,
         ⟨none, some 19, (Op.binOp BinOp.neq 9 (Operand.tmp 16) (Operand.tmp 18) 9)⟩])
      (.cond (Operand.tmp 19) (.seq (.reg [⟨none, some 4, (Op.assign (Operand.const (Value.bool false)))⟩])
        (.ret)) (.skip)))
     (.seq (.seq (.reg [⟨none, some 20, (Op.fieldAddr 126 (Operand.tmp 2) 3)⟩,
          ⟨none, some 21, (Op.load 124 (Operand.tmp 20))⟩,
          ⟨none, some 22, (Op.fieldAddr 126 (Operand.tmp 3) 3)⟩,
          ⟨none, some 23, (Op.load 124 (Operand.tmp 22))⟩,
          ⟨none, some 24, (Op.call ⟨(Callee.value (Operand.func 195)), #[(Operand.tmp 21), (Operand.tmp 23)], #[124, 124]⟩)⟩,
          ⟨none, some 25, (Op.unOp UnOp.not 4 (Operand.tmp 24))⟩])
       (.cond (Operand.tmp 25) (.seq (.reg [⟨none, some 4, (Op.assign (Operand.const (Value.bool false)))⟩])
         (.ret)) (.skip)))
      (.seq (.seq (.reg [⟨none, some 26, (Op.fieldAddr 126 (Operand.tmp 2) 4)⟩,
           ⟨none, some 27, (Op.load 123 (Operand.tmp 26))⟩,
           ⟨none, some 28, (Op.fieldAddr 126 (Operand.tmp 3) 4)⟩,
           ⟨none, some 29, (Op.load 123 (Operand.tmp 28))⟩,
           ⟨none, some 30, (Op.call ⟨(Callee.value (Operand.func 158)), #[(Operand.tmp 27), (Operand.tmp 29)], #[123, 123]⟩)⟩,
           ⟨none, some 31, (Op.unOp UnOp.not 4 (Operand.tmp 30))⟩])
        (.cond (Operand.tmp 31) (.seq (.reg [⟨none, some 4, (Op.assign (Operand.const (Value.bool false)))⟩])
          (.ret)) (.skip)))
       (.seq (.seq (.reg [⟨none, some 32, (Op.fieldAddr 126 (Operand.tmp 2) 5)⟩,
            ⟨none, some 33, (Op.load 4 (Operand.tmp 32))⟩,
            ⟨none, some 34, (Op.fieldAddr 126 (Operand.tmp 3) 5)⟩,
            ⟨none, some 35, (Op.load 4 (Operand.tmp 34))⟩,
            ⟨none, some 36, (Op.binOp BinOp.neq 4 (Operand.tmp 33) (Operand.tmp 35) 4)⟩])
         (.cond (Operand.tmp 36) (.seq (.reg [⟨none, some 4, (Op.assign (Operand.const (Value.bool false)))⟩])
           (.ret)) (.skip)))
        (.seq (.reg [⟨none, some 4, (Op.assign (Operand.const (Value.bool true)))⟩])
         (.ret))))))))
theorem vc156 {args : List AV} {L : List (Nat × Ob)} {R : AV → List (Nat × Ob) → Prop} (ha : args.length ≤ 37) (hL : (L.map (·.1)).Nodup)
    (h : ev Go.Proofs.Tryd.prog ⟨37, L.map (·.1)⟩ ac156 (retQ Go.Proofs.Tryd.prog [(ResultVar.tmp 4)] R) ⟨argT args, hpOf L, Us.of (L.map (·.1))⟩) : ACall Go.Proofs.Tryd.prog 156 args L R :=
  acallA (by kernel_rfl) 37 [] [(ResultVar.tmp 4)] Go.Proofs.Tryd.func156 (by kernel_rfl) Go.Proofs.Tryd.ntmps156 (by kernel_rfl) ha hL (va_of_ev _ h)
theorem en156 : enters Go.Proofs.Tryd.prog 156 = true := by kernel_rfl
def ac88_l0 : ACode :=
  .seq (.seq (.reg [⟨none, some 11, (Op.move (Operand.tmp 5))⟩,
      ⟨none, some 12, (Op.move (Operand.tmp 0))⟩,
      ⟨none, some 13, (Op.call ⟨(Callee.builtin Builtin.len), #[(Operand.tmp 12)], #[59]⟩)⟩,
      ⟨none, some 14, (Op.binOp BinOp.lss 3 (Operand.tmp 11) (Operand.tmp 13) 3)⟩])
   (.cond (Operand.tmp 14) (.skip) (.exit 0)))
  (.seq (.block 1 (.seq (.draw [⟨⟨none, some 17, (Op.move (Operand.tmp 0))⟩, [], [], []⟩,
        ⟨⟨none, some 18, (Op.move (Operand.tmp 5))⟩, [], [], []⟩,
        ⟨⟨none, some 19, (Op.indexAddr 59 (Operand.tmp 17) (Operand.tmp 18))⟩, [], [], []⟩,
        ⟨⟨none, some 20, (Op.load 126 (Operand.tmp 19))⟩, [], [], []⟩,
        ⟨⟨none, some 21, (Op.move (Operand.tmp 1))⟩, [], [], []⟩,
        ⟨⟨none, some 22, (Op.move (Operand.tmp 5))⟩, [], [], []⟩,
        ⟨⟨none, some 23, (Op.indexAddr 59 (Operand.tmp 21) (Operand.tmp 22))⟩, [], [], []⟩,
        ⟨⟨none, some 24, (Op.load 126 (Operand.tmp 23))⟩, [], [], []⟩,
        ⟨⟨none, some 25, (Op.call ⟨(Callee.value (Operand.func 156)), #[(Operand.tmp 20), (Operand.tmp 24)], #[126, 126]⟩)⟩, [], [], []⟩,
        ⟨⟨none, some 26, (Op.unOp UnOp.not 4 (Operand.tmp 25))⟩, [], [], []⟩])
     (.cond (Operand.tmp 26) (.seq (.reg [⟨none, some 4, (Op.assign (Operand.const (Value.bool false)))⟩])
       (.ret)) (.skip))))
   (.reg [⟨none, some 15, (Op.move (Operand.tmp 5))⟩,
      ⟨none, some 16, (Op.binOp BinOp.add 3 (Operand.tmp 15) (Operand.const (Value.int IntKind.i64 1)) 3)⟩,
      ⟨none, some 5, (Op.assign (Operand.tmp 16))⟩]))
def ac88 : ACode :=
  .seq (.reg [⟨none, some 4, (Op.assign (Operand.const (Value.bool false)))⟩])
  (.seq (.seq (.reg [⟨none, some 6, (Op.move (Operand.tmp 0))⟩,
       ⟨none, some 7, (Op.call ⟨(Callee.builtin Builtin.len), #[(Operand.tmp 6)], #[59]⟩)⟩,
       ⟨none, some 8, (Op.move (Operand.tmp 1))⟩,
       ⟨none, some 9, (Op.call ⟨(Callee.builtin Builtin.len), #[(Operand.tmp 8)], #[59]⟩)⟩,
       ⟨none, some 10, (Op.binOp BinOp.neq 3 (Operand.tmp 7) (Operand.tmp 9) 3)⟩])
    (.cond (Operand.tmp 10) (.seq (.reg [⟨none, some 4, (Op.assign (Operand.const (Value.bool false)))⟩])
      (.ret)) (.skip)))
   (.seq (.seq (.reg [⟨none, some 5, (Op.assign (Operand.const (Value.int IntKind.i64 0)))⟩])
     (.block 0 (.loop ac88_l0)))
    (.seq (.reg [⟨none, some 4, (Op.assign (Operand.const (Value.bool true)))⟩])
     (.ret))))
theorem vc88 {args : List AV} {L : List (Nat × Ob)} {R : AV → List (Nat × Ob) → Prop} (ha : args.length ≤ 27) (hL : (L.map (·.1)).Nodup)
    (h : ev Go.Proofs.Tryd.prog ⟨27, L.map (·.1)⟩ ac88 (retQ Go.Proofs.Tryd.prog [(ResultVar.tmp 4)] R) ⟨argT args, hpOf L, Us.of (L.map (·.1))⟩) : ACall Go.Proofs.Tryd.prog 88 args L R :=
  acallA (by kernel_rfl) 27 [(6, [⟨0, [], [], [], [2, 3, 8, 9]⟩, ⟨1, [], [], [], [2, 3, 8, 9]⟩, ⟨2, [], [], [], [3, 8, 9]⟩, ⟨3, [], [], [], [8, 9]⟩, ⟨4, [], [], [], [6, 7, 8, 9]⟩, ⟨5, [], [], [], [6, 7, 8, 9]⟩, ⟨6, [], [], [], [7, 8, 9]⟩, ⟨7, [], [], [], [8, 9]⟩, ⟨8, [], [], [], [9]⟩, ⟨9, [], [], [], []⟩])] [(ResultVar.tmp 4)] Go.Proofs.Tryd.func88 (by kernel_rfl) Go.Proofs.Tryd.ntmps88 (by kernel_rfl) ha hL (va_of_ev _ h)
theorem en88 : enters Go.Proofs.Tryd.prog 88 = true := by kernel_rfl
def ac33 : ACode :=
  .seq (.reg [⟨none, some 2, (Op.box 63 (Operand.tmp 0))⟩,
     ⟨none, some 3, (Op.box 63 (Operand.tmp 1))⟩,
     ⟨none, some 4, (Op.assign (Operand.const (Value.bool false)))⟩])
  (.seq (.seq (.reg [⟨none, some 5, (Op.fieldAddr 63 (Operand.tmp 2) 0)⟩,
       ⟨none, some 6, (Op.load 3 (Operand.tmp 5))⟩,
       ⟨none, some 7, (Op.fieldAddr 63 (Operand.tmp 3) 0)⟩,
       ⟨none, some 8, (Op.load 3 (Operand.tmp 7))⟩,
       ⟨none, some 9, (Op.binOp BinOp.neq 3 (Operand.tmp 6) (Operand.tmp 8) 3)⟩])
    (.cond (Operand.tmp 9) (.seq (.reg [⟨none, some 4, (Op.assign (Operand.const (Value.bool false)))⟩])
      (.ret)) (.skip)))
   (.seq (.seq (.reg [⟨none, some 10, (Op.fieldAddr 63 (Operand.tmp 2) 1)⟩,
        ⟨none, some 11, (Op.load 59 (Operand.tmp 10))⟩,
        ⟨none, some 12, (Op.fieldAddr 63 (Operand.tmp 3) 1)⟩,
        ⟨none, some 13, (Op.load 59 (Operand.tmp 12))⟩,
        ⟨none, some 14, (Op.call ⟨(Callee.value (Operand.func 88)), #[(Operand.tmp 11), (Operand.tmp 13)], #[59, 59]⟩)⟩,
        ⟨none, some 15, (Op.unOp UnOp.not 4 (Operand.tmp 14))⟩])
     (.cond (Operand.tmp 15) (.seq (.reg [⟨none, some 4, (Op.assign (Operand.const (Value.bool false)))⟩])
       (.ret)) (.skip)))
    (.seq (.seq (.reg [⟨none, some 16, (Op.fieldAddr 63 (Operand.tmp 2) 2)⟩,
         ⟨none, some 17, (Op.load 60 (Operand.tmp 16))⟩,
         ⟨none, some 18, (Op.fieldAddr 63 (Operand.tmp 3) 2)⟩,
         ⟨none, some 19, (Op.load 60 (Operand.tmp 18))⟩,
         ⟨none, some 20, (Op.call ⟨(Callee.value (Operand.func 89)), #[(Operand.tmp 17), (Operand.tmp 19)], #[60, 60]⟩)⟩,
         ⟨none, some 21, (Op.unOp UnOp.not 4 (Operand.tmp 20))⟩])
      (.cond (Operand.tmp 21) (.seq (.reg [⟨none, some 4, (Op.assign (Operand.const (Value.bool false)))⟩])
        (.ret)) (.skip)))
     (.seq (.seq (.reg [⟨none, some 22, (Op.fieldAddr 63 (Operand.tmp 2) 3)⟩,
          ⟨none, some 23, (Op.load 61 (Operand.tmp 22))⟩,
          ⟨none, some 24, (Op.fieldAddr 63 (Operand.tmp 3) 3)⟩,
          ⟨none, some 25, (Op.load 61 (Operand.tmp 24))⟩,
          ⟨none, some 26, (Op.call ⟨(Callee.value (Operand.func 90)), #[(Operand.tmp 23), (Operand.tmp 25)], #[61, 61]⟩)⟩,
          ⟨none, some 27, (Op.unOp UnOp.not 4 (Operand.tmp 26))⟩])
       (.cond (Operand.tmp 27) (.seq (.reg [⟨none, some 4, (Op.assign (Operand.const (Value.bool false)))⟩])
         (.ret)) (.skip)))
      (.seq (.seq (.reg [⟨none, some 28, (Op.fieldAddr 63 (Operand.tmp 2) 4)⟩,
           ⟨none, some 29, (Op.load 4 (Operand.tmp 28))⟩,
           ⟨none, some 30, (Op.fieldAddr 63 (Operand.tmp 3) 4)⟩,
           ⟨none, some 31, (Op.load 4 (Operand.tmp 30))⟩,
           ⟨none, some 32, (Op.binOp BinOp.neq 4 (Operand.tmp 29) (Operand.tmp 31) 4)⟩])
        (.cond (Operand.tmp 32) (.seq (.reg [⟨none, some 4, (Op.assign (Operand.const (Value.bool false)))⟩])
          (.ret)) (.skip)))
       (.seq (.seq (.reg [⟨none, some 33, (Op.fieldAddr 63 (Operand.tmp 2) 5)⟩,
            ⟨none, some 34, (Op.load 54 (Operand.tmp 33))⟩,
            ⟨none, some 35, (Op.fieldAddr 63 (Operand.tmp 3) 5)⟩,
            ⟨none, some 36, (Op.load 54 (Operand.tmp 35))⟩,
            ⟨none, some 37, (Op.call ⟨(Callee.value (Operand.func 91)), #[(Operand.tmp 34), (Operand.tmp 36)], #[54, 54]⟩)⟩,
            ⟨none, some 38, (Op.unOp UnOp.not 4 (Operand.tmp 37))⟩])
         (.cond (Operand.tmp 38) (.seq (.reg [⟨none, some 4, (Op.assign (Operand.const (Value.bool false)))⟩])
           (.ret)) (.skip)))
        (.seq (.seq (.reg [⟨none, some 39, (Op.fieldAddr 63 (Operand.tmp 2) 6)⟩,
             ⟨none, some 40, (Op.load 3 (Operand.tmp 39))⟩,
             ⟨none, some 41, (Op.fieldAddr 63 (Operand.tmp 3) 6)⟩,
             ⟨none, some 42, (Op.load 3 (Operand.tmp 41))⟩,
             ⟨none, some 43, (Op.binOp BinOp.neq 3 (Operand.tmp 40) (Operand.tmp 42) 3)⟩])
          (.cond (Operand.tmp 43) (.seq (.reg [⟨none, some 4, (Op.assign (Operand.const (Value.bool false)))⟩])
            (.ret)) (.skip)))
         (.seq (.reg [⟨none, some 4, (Op.assign (Operand.const (Value.bool true)))⟩])
          (.ret)))))))))
theorem vc33 {args : List AV} {L : List (Nat × Ob)} {R : AV → List (Nat × Ob) → Prop} (ha : args.length ≤ 44) (hL : (L.map (·.1)).Nodup)
    (h : ev Go.Proofs.Tryd.prog ⟨44, L.map (·.1)⟩ ac33 (retQ Go.Proofs.Tryd.prog [(ResultVar.tmp 4)] R) ⟨argT args, hpOf L, Us.of (L.map (·.1))⟩) : ACall Go.Proofs.Tryd.prog 33 args L R :=
  acallA (by kernel_rfl) 44 [] [(ResultVar.tmp 4)] Go.Proofs.Tryd.func33 (by kernel_rfl) Go.Proofs.Tryd.ntmps33 (by kernel_rfl) ha hL (va_of_ev _ h)
end Go.Av.F
end
section
namespace Go.Av.F
open Go Go.Av
set_option linter.unusedSimpArgs false
set_option linter.unusedVariables false
set_option maxRecDepth 100000
attribute [local simp] tt126 tt59 tt63 tt62
attribute [local simp] tt3 tt4 tt9 tt51 tt52 tt53 tt54 tt56 tt177 tt185 tt174 tt175 tt61 tt123 tt60 tt113 tt124
theorem eqPtrC (p : PT) : ACall Go.Proofs.Tryd.prog 158 [.agg p.row, .agg p.row] [] (fun r L' => r = .bool true ∧ L' = []) := by
  apply vc158 (by simp) (by simp)
  simp [ac158, PT.row]
theorem eqDdtC (p : DE) : ACall Go.Proofs.Tryd.prog 157 [.agg p.row, .agg p.row] [] (fun r L' => r = .bool true ∧ L' = []) := by
  apply vc157 (by simp) (by simp)
  simp [ac157, DE.row]
theorem eqPtrSC (l : List PT) (hl : l.length ≤ 1048576) : ACall Go.Proofs.Tryd.prog 90 [.lst 3 (l.map PT.row), .lst 3 (l.map PT.row)] [] (fun r L' => r = .bool true ∧ L' = []) := by
  apply vc90 (by simp) (by simp)
  simp [ac90]
  refine ev_loopX (X := Nat) [0, 1, 5] (fun i => ⟨mkT [(0, .lst 3 (l.map PT.row)), (1, .lst 3 (l.map PT.row)), (5, .int .i64 i)], hpOf [], Us.of []⟩) (fun i => l.length - i) (fun i => i ≤ l.length) 0 ⟨by simp, [], by simp [canonOk], by simp [canon]⟩ ?_
  intro i hi
  by_cases h1 : i < l.length
  · obtain ⟨x, e0⟩ : ∃ x, l[i] = x := ⟨_, rfl⟩
    have e1 : l[i]? = some x := by rw [← e0]; exact List.getElem?_eq_getElem h1
    have e2 : IntKind.i64.wrap ((i : Int) + 1) = ((i + 1 : Nat) : Int) := by rw [i64_in' _ (by omega)]; omega
    have hx : x.row.length = 3 := rfl
    have hx2 : x.row.take 3 = x.row := rfl
    simp [ac90_l0, h1, e0, e1, hx, hx2]
    refine callA_val en158 (eqPtrC x) (by simp [pt_cl]) (by simp) ?_
    simp [e2]
    exact nextX_of (i + 1) (by omega) (by omega) [] (by simp [canonOk]) (by simp [canon])
  · have : i = l.length := by omega
    subst this
    simp [ac90_l0]
theorem eqDdtSC (l : List DE) (hl : l.length ≤ 1048576) : ACall Go.Proofs.Tryd.prog 89 [.lst 3 (l.map DE.row), .lst 3 (l.map DE.row)] [] (fun r L' => r = .bool true ∧ L' = []) := by
  apply vc89 (by simp) (by simp)
  simp [ac89]
  refine ev_loopX (X := Nat) [0, 1, 5] (fun i => ⟨mkT [(0, .lst 3 (l.map DE.row)), (1, .lst 3 (l.map DE.row)), (5, .int .i64 i)], hpOf [], Us.of []⟩) (fun i => l.length - i) (fun i => i ≤ l.length) 0 ⟨by simp, [], by simp [canonOk], by simp [canon]⟩ ?_
  intro i hi
  by_cases h1 : i < l.length
  · obtain ⟨x, e0⟩ : ∃ x, l[i] = x := ⟨_, rfl⟩
    have e1 : l[i]? = some x := by rw [← e0]; exact List.getElem?_eq_getElem h1
    have e2 : IntKind.i64.wrap ((i : Int) + 1) = ((i + 1 : Nat) : Int) := by rw [i64_in' _ (by omega)]; omega
    have hx : x.row.length = 3 := rfl
    have hx2 : x.row.take 3 = x.row := rfl
    simp [ac89_l0, h1, e0, e1, hx, hx2]
    refine callA_val en157 (eqDdtC x) (by simp [de_cl]) (by simp) ?_
    simp [e2]
    exact nextX_of (i + 1) (by omega) (by omega) [] (by simp [canonOk]) (by simp [canon])
  · have : i = l.length := by omega
    subst this
    simp [ac89_l0]
theorem eqIntSC (l : List Int) (hl : l.length ≤ 1048576) : ACall Go.Proofs.Tryd.prog 91 [.lst 1 (l.map intRow), .lst 1 (l.map intRow)] [] (fun r L' => r = .bool true ∧ L' = []) := by
  apply vc91 (by simp) (by simp)
  simp [ac91]
  refine ev_loopX (X := Nat) [0, 1, 5] (fun i => ⟨mkT [(0, .lst 1 (l.map intRow)), (1, .lst 1 (l.map intRow)), (5, .int .i64 i)], hpOf [], Us.of []⟩) (fun i => l.length - i) (fun i => i ≤ l.length) 0 ⟨by simp, [], by simp [canonOk], by simp [canon]⟩ ?_
  intro i hi
  by_cases h1 : i < l.length
  · obtain ⟨x, e0⟩ : ∃ x, l[i] = x := ⟨_, rfl⟩
    have e1 : l[i]? = some x := by rw [← e0]; exact List.getElem?_eq_getElem h1
    have e2 : IntKind.i64.wrap ((i : Int) + 1) = ((i + 1 : Nat) : Int) := by rw [i64_in' _ (by omega)]; omega
    simp [ac91_l0, h1, e0, e1, intRow, e2]
    exact nextX_of (i + 1) (by omega) (by omega) [] (by simp [canonOk]) (by simp [canon, intRow])
  · have : i = l.length := by omega
    subst this
    simp [ac91_l0]
def e8St (l : List PT) (i : Nat) : S :=
  ⟨mkT [(2, .ptr 2 0 0), (3, .ptr 3 0 0), (5, .int .i64 i)], hpOf [(2, ⟨24, [l.flatMap PT.row]⟩), (3, ⟨24, [l.flatMap PT.row]⟩)], Us.of [2, 3]⟩
theorem eqA8C (p0 p1 p2 p3 p4 p5 p6 p7 : PT) : ACall Go.Proofs.Tryd.prog 195 [.agg ([p0, p1, p2, p3, p4, p5, p6, p7].flatMap PT.row), .agg ([p0, p1, p2, p3, p4, p5, p6, p7].flatMap PT.row)] [] (fun r L' => r = .bool true ∧ L' = []) := by
  apply vc195 (by simp) (by simp)
  simp [ac195, PT.row]
  refine ev_loopX (X := Nat) [2, 3, 5] (e8St [p0, p1, p2, p3, p4, p5, p6, p7]) (fun i => 8 - i) (fun i => i ≤ 8) 0 ⟨by simp, [(2, 2), (3, 3)], by simp [canonOk], by simp [canon, obOf, e8St, PT.row]⟩ ?_
  intro i hi
  have hc : i = 0 ∨ i = 1 ∨ i = 2 ∨ i = 3 ∨ i = 4 ∨ i = 5 ∨ i = 6 ∨ i = 7 ∨ i = 8 := by omega
  rcases hc with rfl | rfl | rfl | rfl | rfl | rfl | rfl | rfl | rfl
  · simp [ac195_l0, e8St, PT.row]
    refine callA_val en158 (eqPtrC p0) (by simp [PT.row]) (by simp) ?_
    have w1 : IntKind.i64.wrap 1 = 1 := by decide
    simp [PT.row, w1]
    exact nextX_of 1 (by omega) (by omega) [(2, 2), (3, 3)] (by simp [canonOk]) (by simp [canon, obOf, e8St, PT.row])
  · simp [ac195_l0, e8St, PT.row]
    refine callA_val en158 (eqPtrC p1) (by simp [PT.row]) (by simp) ?_
    have w2 : IntKind.i64.wrap 2 = 2 := by decide
    simp [PT.row, w2]
    exact nextX_of 2 (by omega) (by omega) [(2, 2), (3, 3)] (by simp [canonOk]) (by simp [canon, obOf, e8St, PT.row])
  · simp [ac195_l0, e8St, PT.row]
    refine callA_val en158 (eqPtrC p2) (by simp [PT.row]) (by simp) ?_
    have w3 : IntKind.i64.wrap 3 = 3 := by decide
    simp [PT.row, w3]
    exact nextX_of 3 (by omega) (by omega) [(2, 2), (3, 3)] (by simp [canonOk]) (by simp [canon, obOf, e8St, PT.row])
  · simp [ac195_l0, e8St, PT.row]
    refine callA_val en158 (eqPtrC p3) (by simp [PT.row]) (by simp) ?_
    have w4 : IntKind.i64.wrap 4 = 4 := by decide
    simp [PT.row, w4]
    exact nextX_of 4 (by omega) (by omega) [(2, 2), (3, 3)] (by simp [canonOk]) (by simp [canon, obOf, e8St, PT.row])
  · simp [ac195_l0, e8St, PT.row]
    refine callA_val en158 (eqPtrC p4) (by simp [PT.row]) (by simp) ?_
    have w5 : IntKind.i64.wrap 5 = 5 := by decide
    simp [PT.row, w5]
    exact nextX_of 5 (by omega) (by omega) [(2, 2), (3, 3)] (by simp [canonOk]) (by simp [canon, obOf, e8St, PT.row])
  · simp [ac195_l0, e8St, PT.row]
    refine callA_val en158 (eqPtrC p5) (by simp [PT.row]) (by simp) ?_
    have w6 : IntKind.i64.wrap 6 = 6 := by decide
    simp [PT.row, w6]
    exact nextX_of 6 (by omega) (by omega) [(2, 2), (3, 3)] (by simp [canonOk]) (by simp [canon, obOf, e8St, PT.row])
  · simp [ac195_l0, e8St, PT.row]
    refine callA_val en158 (eqPtrC p6) (by simp [PT.row]) (by simp) ?_
    have w7 : IntKind.i64.wrap 7 = 7 := by decide
    simp [PT.row, w7]
    exact nextX_of 7 (by omega) (by omega) [(2, 2), (3, 3)] (by simp [canonOk]) (by simp [canon, obOf, e8St, PT.row])
  · simp [ac195_l0, e8St, PT.row]
    refine callA_val en158 (eqPtrC p7) (by simp [PT.row]) (by simp) ?_
    have w8 : IntKind.i64.wrap 8 = 8 := by decide
    simp [PT.row, w8]
    exact nextX_of 8 (by omega) (by omega) [(2, 2), (3, 3)] (by simp [canonOk]) (by simp [canon, obOf, e8St, PT.row])
  · simp [ac195_l0, e8St, PT.row]
theorem eqCsC (s : CS) (h8 : s.map.length = 8) : ACall Go.Proofs.Tryd.prog 156 [.agg s.row, .agg s.row] [] (fun r L' => r = .bool true ∧ L' = []) := by
  obtain ⟨nm, kd, fr, mp, hm, dt⟩ := s
  simp only at h8
  obtain ⟨p0, p1, p2, p3, p4, p5, p6, p7, rfl⟩ := eight mp h8
  apply vc156 (by simp) (by simp)
  simp [ac156, CS.row, PT.row]
  refine callA_val en195 (eqA8C p0 p1 p2 p3 p4 p5 p6 p7) (by simp [PT.row]) (by simp) ?_
  simp [PT.row]
  refine callA_val en158 (eqPtrC hm) (by simp [PT.row]) (by simp) ?_
  simp [PT.row]
theorem eqCsSC (l : List CS) (hl : l.length ≤ 1048576) (h8 : ∀ s ∈ l, s.map.length = 8) : ACall Go.Proofs.Tryd.prog 88 [.lst 31 (l.map CS.row), .lst 31 (l.map CS.row)] [] (fun r L' => r = .bool true ∧ L' = []) := by
  apply vc88 (by simp) (by simp)
  simp [ac88]
  refine ev_loopX (X := Nat) [0, 1, 5] (fun i => ⟨mkT [(0, .lst 31 (l.map CS.row)), (1, .lst 31 (l.map CS.row)), (5, .int .i64 i)], hpOf [], Us.of []⟩) (fun i => l.length - i) (fun i => i ≤ l.length) 0 ⟨by simp, [], by simp [canonOk], by simp [canon]⟩ ?_
  intro i hi
  by_cases h1 : i < l.length
  · obtain ⟨x, e0⟩ : ∃ x, l[i] = x := ⟨_, rfl⟩
    have e1 : l[i]? = some x := by rw [← e0]; exact List.getElem?_eq_getElem h1
    have e2 : IntKind.i64.wrap ((i : Int) + 1) = ((i + 1 : Nat) : Int) := by rw [i64_in' _ (by omega)]; omega
    have hx8 := h8 x (List.mem_of_getElem? e1)
    simp [ac88_l0, h1, e0, e1, cs_len x hx8, cs_take x hx8]
    refine callA_val en156 (eqCsC x hx8) (by simp [cs_cl]) (by simp) ?_
    simp [e2]
    exact nextX_of (i + 1) (by omega) (by omega) [] (by simp [canonOk]) (by simp [canon])
  · have : i = l.length := by omega
    subst this
    simp [ac88_l0]
theorem eqCoreC (c : CO) (hg : CoG c) (hs : CoS c) : ACall Go.Proofs.Tryd.prog 33 [.agg c.row, .agg c.row] [] (fun r L' => r = .bool true ∧ L' = []) := by
  obtain ⟨_, g2, _⟩ := hg
  obtain ⟨s1, s2, s3, s4, _⟩ := hs
  apply vc33 (by simp) (by simp)
  simp [ac33, CO.row]
  refine callA_val en88 (eqCsSC c.sets s1 fun s h => (g2 s h).2.1) (by simp) (by simp) ?_
  simp
  refine callA_val en89 (eqDdtSC c.ddt s2) (by simp) (by simp) ?_
  simp
  refine callA_val en90 (eqPtrSC c.parts s3) (by simp) (by simp) ?_
  simp
  refine callA_val en91 (eqIntSC c.safe s4) (by simp) (by simp) ?_
  simp
end Go.Av.F
end
