/- Lemmas for the proof, no statement of the seat: AvX11, AvY9, AvZ18, AvY10, AvZ19, AvLaw7; no conditions. -/
import Derived.Test.YtiidedhlnlaalaaDoorLayAM
import Derived.Test.YtiidedhlnlaalaaDoorProg
section
/- The capacity of a slice in a cell, opened. -/
namespace Go.Av
open Go.RowKit
set_option linter.unusedSimpArgs false
set_option linter.unusedVariables false
section
variable {P : Program} {E : Env} {s : S} {Q : Exit → S → Prop}

theorem va_capc {a : ACode} (k j : Nat) {sz id len : Nat} {row : List AV} {o : Ob} (hk : s.h k = some ⟨sz, [row]⟩) (hj : j < row.length) (hrow : row.getD j .top = .sl id 0 len) (hi : s.h id = some o) (hne : k ≠ id)
    (h : ∀ cap, len ≤ cap → VA P E a ⟨s.t, upd (upd s.h k (some ⟨sz, [row.set j (.slc id 0 len cap)]⟩)) id (some (capOb o cap)), s.u⟩ Q) : VA P E a s Q := by
  intro pl c hc cx Z γ ac w hn hin hs
  obtain ⟨r0, hr0, hor0⟩ := hs.hp.obj k _ hk
  have hjs : j < sz := by
    have := hor0.len 0 (by simp)
    simp only [List.getD_cons_zero] at this
    omega
  obtain ⟨v, hv, hrv⟩ := hor0.cell 0 j (by simp) hjs
  simp only [List.getD_cons_zero, hrow] at hrv
  obtain ⟨cap, hc1, hc2, hrel⟩ : ∃ cap, len ≤ cap ∧ (∀ r, γ id = some r → cap * r.sz ≤ r.n) ∧ AVRel w Z γ (.slc id 0 len cap) v := by
    cases hrv with
    | sl _ _ _ _ cap r hg' hl hc =>
      refine ⟨cap, hl, fun r' hr' => ?_, .slc _ _ _ _ _ r hg' hl hc⟩
      rw [hg'] at hr'; injection hr' with hr'; subst hr'; simpa using hc
    | sl0 _ _ _ a => exact ⟨0, Nat.le_refl _, fun _ _ => by simp, .slc0 _ _ _ _⟩
  refine h cap hc1 pl c hc cx Z γ ac w hn hin ?_
  have key : ∀ i x, upd (upd s.h k (some (⟨sz, [row.set j (.slc id 0 len cap)]⟩ : Ob))) id (some (capOb o cap)) i = some x →
      (i = id ∧ x = capOb o cap) ∨ (i = k ∧ x = ⟨sz, [row.set j (.slc id 0 len cap)]⟩) ∨ (i ≠ id ∧ i ≠ k ∧ s.h i = some x) := fun i x hx => by
    by_cases h1 : i = id
    · subst h1; rw [upd_same] at hx; injection hx with hx; exact .inl ⟨rfl, hx.symm⟩
    · rw [upd_ne _ _ h1] at hx
      by_cases h2 : i = k
      · subst h2; rw [upd_same] at hx; injection hx with hx; exact .inr (.inl ⟨rfl, hx.symm⟩)
      · rw [upd_ne _ _ h2] at hx; exact .inr (.inr ⟨h1, h2, hx⟩)
  have hex : ∀ i x, upd (upd s.h k (some (⟨sz, [row.set j (.slc id 0 len cap)]⟩ : Ob))) id (some (capOb o cap)) i = some x → ∃ y, s.h i = some y := fun i x hx => by
    rcases key i x hx with ⟨rfl, _⟩ | ⟨rfl, _⟩ | ⟨_, _, h⟩
    · exact ⟨_, hi⟩
    · exact ⟨_, hk⟩
    · exact ⟨_, h⟩
  refine ⟨hs.tmp, hs.siz, hs.dfr, ⟨fun i x hx => ?_, fun i i2 o1 o2 r1 r2 hne g1 g2 e1 e2 => ?_, fun i x r hx hr => ?_, hs.hp.zlt⟩, hs.fr, fun i x r hx hr => ?_, hs.z0, hs.z1, hs.scp, hs.in0, hs.inp⟩
  · rcases key i x hx with ⟨rfl, rfl⟩ | ⟨rfl, rfl⟩ | ⟨_, _, h⟩
    · obtain ⟨r, hr, hor⟩ := hs.hp.obj _ _ hi
      exact ⟨r, hr, hor.cap (hc2 r hr)⟩
    · refine ⟨r0, hr0, hor0.spot, hor0.sz, hor0.fit, fun e he => ?_, hor0.live, fun e j2 he hj2 => ?_, hor0.pln⟩
      · have h0 : e = 0 := by simpa using he
        subst h0
        have := hor0.len 0 (by simp)
        simpa using this
      · have h0 : e = 0 := by simpa using he
        subst h0
        obtain ⟨u, hu, hru⟩ := hor0.cell 0 j2 (by simp) hj2
        by_cases hjj : j2 = j
        · subst hjj
          refine ⟨v, hv, ?_⟩
          show AVRel w Z γ ((row.set j2 (.slc id 0 len cap)).getD j2 .top) v
          rw [List.getD_eq_getElem?_getD, List.getElem?_set_self hj]
          exact hrel
        · refine ⟨u, hu, ?_⟩
          show AVRel w Z γ ((row.set j (.slc id 0 len cap)).getD j2 .top) u
          rw [List.getD_eq_getElem?_getD, List.getElem?_set_ne (Ne.symm hjj), ← List.getD_eq_getElem?_getD]
          exact hru
    · exact hs.hp.obj i x h
  · obtain ⟨y1, h1⟩ := hex _ _ g1
    obtain ⟨y2, h2⟩ := hex _ _ g2
    exact hs.hp.dis i i2 y1 y2 r1 r2 hne h1 h2 e1 e2
  · obtain ⟨y, h⟩ := hex _ _ hx
    exact hs.hp.zon i y r h hr
  · obtain ⟨y, h⟩ := hex _ _ hx
    exact hs.own i y r h hr

/-- One cell of an object's row told with less. -/
theorem sw_impc (k j : Nat) {sz : Nat} {row : List AV} {b : AV} (hk : s.h k = some ⟨sz, [row]⟩) (hj : j < row.length) (hi : impA (row.getD j .top) b) : SW E s ⟨s.t, upd s.h k (some ⟨sz, [row.set j b]⟩), s.u⟩ := fun cx Z γ ac w hn hin hs => by
  have key : ∀ i x, upd s.h k (some (⟨sz, [row.set j b]⟩ : Ob)) i = some x → (i = k ∧ x = ⟨sz, [row.set j b]⟩) ∨ (i ≠ k ∧ s.h i = some x) := fun i x hx => by
    by_cases h2 : i = k
    · subst h2; rw [upd_same] at hx; injection hx with hx; exact .inl ⟨rfl, hx.symm⟩
    · rw [upd_ne _ _ h2] at hx; exact .inr ⟨h2, hx⟩
  have hex : ∀ i x, upd s.h k (some (⟨sz, [row.set j b]⟩ : Ob)) i = some x → ∃ y, s.h i = some y := fun i x hx => by
    rcases key i x hx with ⟨rfl, _⟩ | ⟨_, h⟩
    · exact ⟨_, hk⟩
    · exact ⟨_, h⟩
  refine ⟨Z, γ, hs.tmp, hs.siz, hs.dfr, ⟨fun i x hx => ?_, fun i i2 o1 o2 r1 r2 hne g1 g2 e1 e2 => ?_, fun i x r hx hr => ?_, hs.hp.zlt⟩, hs.fr, fun i x r hx hr => ?_, hs.z0, hs.z1, hs.scp, hs.in0, hs.inp⟩
  · rcases key i x hx with ⟨rfl, rfl⟩ | ⟨_, h⟩
    · obtain ⟨r0, hr0, hor0⟩ := hs.hp.obj _ _ hk
      refine ⟨r0, hr0, hor0.spot, hor0.sz, hor0.fit, fun e he => ?_, hor0.live, fun e j2 he hj2 => ?_, hor0.pln⟩
      · have h0 : e = 0 := by simpa using he
        subst h0
        have := hor0.len 0 (by simp)
        simpa using this
      · have h0 : e = 0 := by simpa using he
        subst h0
        obtain ⟨u, hu, hru⟩ := hor0.cell 0 j2 (by simp) hj2
        refine ⟨u, hu, ?_⟩
        show AVRel w Z γ ((row.set j b).getD j2 .top) u
        by_cases hjj : j2 = j
        · subst hjj
          rw [List.getD_eq_getElem?_getD, List.getElem?_set_self hj]
          exact hi _ _ _ _ hru
        · rw [List.getD_eq_getElem?_getD, List.getElem?_set_ne (Ne.symm hjj), ← List.getD_eq_getElem?_getD]
          exact hru
    · exact hs.hp.obj i x h
  · obtain ⟨y1, h1⟩ := hex _ _ g1
    obtain ⟨y2, h2⟩ := hex _ _ g2
    exact hs.hp.dis i i2 y1 y2 r1 r2 hne h1 h2 e1 e2
  · obtain ⟨y, h⟩ := hex _ _ hx
    exact hs.hp.zon i y r h hr
  · obtain ⟨y, h⟩ := hex _ _ hx
    exact hs.own i y r h hr
end
end Go.Av
end

section
/- Functions of the program in the short form; printed by acgen.py. -/
namespace Go.Av.F
open Go Go.Av
set_option maxRecDepth 100000
set_option linter.constructorNameAsVariable false
def ac27_l0 : ACode :=
  .seq (.block 1 (.seq (.seq (.reg [⟨none, some 29, (Op.move (Operand.tmp 5))⟩,
        ⟨none, some 30, (Op.fieldAddr 47 (Operand.tmp 1) 2)⟩,
        ⟨none, some 31, (Op.load 3 (Operand.tmp 30))⟩,
        ⟨none, some 32, (Op.binOp BinOp.geq 3 (Operand.tmp 29) (Operand.tmp 31) 3)⟩])
     (.cond (Operand.tmp 32) (.reg [⟨none, some 33, (Op.move (Operand.tmp 4))⟩,
         ⟨none, some 34, (Op.load 25 (Operand.tmp 3))⟩,
         ⟨none, some 35, (Op.call ⟨(Callee.value (Operand.func 58)), #[(Operand.tmp 34)], #[25]⟩)⟩,
         ⟨none, some 36, (Op.buildSlice 49 1 #[(0, (Operand.tmp 35))])⟩,
         ⟨none, some 37, (Op.call ⟨(Callee.builtin Builtin.append), #[(Operand.tmp 33), (Operand.tmp 36)], #[49, 49]⟩)⟩,
         ⟨none, some 4, (Op.assign (Operand.tmp 37))⟩]) (.skip)))
    (.seq (.seq (.reg [⟨none, some 38, (Op.move (Operand.tmp 5))⟩,
         ⟨none, some 39, (Op.fieldAddr 47 (Operand.tmp 1) 1)⟩,
         ⟨none, some 40, (Op.load 45 (Operand.tmp 39))⟩,
         ⟨none, some 41, (Op.call ⟨(Callee.builtin Builtin.len), #[(Operand.tmp 40)], #[45]⟩)⟩,
         ⟨none, some 42, (Op.binOp BinOp.eql 3 (Operand.tmp 38) (Operand.tmp 41) 3)⟩])
      (.cond (Operand.tmp 42) (.seq (.reg [⟨none, some 43, (Op.move (Operand.tmp 4))⟩,
           ⟨none, some 2, (Op.assign (Operand.tmp 43))⟩])
        (.ret)) (.skip)))
     (.draw [⟨⟨none, some 45, (Op.load 25 (Operand.tmp 3))⟩, [3], [], []⟩,
        ⟨⟨none, some 46, (Op.fieldAddr 47 (Operand.tmp 1) 1)⟩, [], [3], []⟩,
        ⟨⟨none, some 47, (Op.load 45 (Operand.tmp 46))⟩, [1], [3], []⟩,
        ⟨⟨none, some 48, (Op.move (Operand.tmp 5))⟩, [], [3, 1], []⟩,
        ⟨⟨none, some 49, (Op.indexAddr 45 (Operand.tmp 47) (Operand.tmp 48))⟩, [], [3], []⟩,
        ⟨⟨none, some 50, (Op.load 27 (Operand.tmp 49))⟩, [], [3], []⟩,
        ⟨⟨none, some 51, (Op.call ⟨(Callee.value (Operand.func 16)), #[(Operand.tmp 45), (Operand.tmp 50)], #[25, 27]⟩)⟩, [], [], []⟩,
        ⟨⟨none, some 44, (Op.move (Operand.tmp 51))⟩, [], [], []⟩,
        ⟨⟨none, some 52, (Op.extract (Operand.tmp 44) 0)⟩, [], [], []⟩,
        ⟨⟨none, some 53, (Op.extract (Operand.tmp 44) 1)⟩, [], [], []⟩,
        ⟨⟨none, none, (Op.store 25 (Operand.tmp 3) (Operand.tmp 52))⟩, [], [], []⟩]))))
  (.reg [⟨none, some 27, (Op.move (Operand.tmp 5))⟩,
     ⟨none, some 28, (Op.binOp BinOp.add 3 (Operand.tmp 27) (Operand.const (Value.int IntKind.i64 1)) 3)⟩,
     ⟨none, some 5, (Op.assign (Operand.tmp 28))⟩])
/-- impl.TrailBooks -/
def ac27 : ACode :=
  .seq (.reg [⟨none, some 1, (Op.box 47 (Operand.tmp 0))⟩,
     ⟨none, some 2, (Op.assign (Operand.const (Value.slice none 0 0)))⟩])
  (.seq (.seq (.reg [⟨none, some 6, (Op.fieldAddr 47 (Operand.tmp 1) 0)⟩,
       ⟨none, some 7, (Op.load 25 (Operand.tmp 6))⟩,
       ⟨none, some 8, (Op.call ⟨(Callee.value (Operand.func 21)), #[(Operand.tmp 7)], #[25]⟩)⟩,
       ⟨none, some 9, (Op.unOp UnOp.not 4 (Operand.tmp 8))⟩,
       ⟨none, some 10, (Op.move (Operand.tmp 9))⟩,
       ⟨some (10, false), some 11, (Op.fieldAddr 47 (Operand.tmp 1) 1)⟩,
       ⟨some (10, false), some 12, (Op.load 45 (Operand.tmp 11))⟩,
       ⟨some (10, false), some 13, (Op.call ⟨(Callee.builtin Builtin.len), #[(Operand.tmp 12)], #[45]⟩)⟩,
       ⟨some (10, false), some 14, (Op.binOp BinOp.gtr 3 (Operand.tmp 13) (Operand.const (Value.int IntKind.i64 8)) 3)⟩,
       ⟨none, some 15, (Op.pick (Operand.tmp 10) (Operand.const (Value.bool true)) (Operand.tmp 14))⟩,
       ⟨none, some 16, (Op.move (Operand.tmp 15))⟩,
       ⟨some (16, false), some 17, (Op.fieldAddr 47 (Operand.tmp 1) 2)⟩,
       ⟨some (16, false), some 18, (Op.load 3 (Operand.tmp 17))⟩,
       ⟨some (16, false), some 19, (Op.fieldAddr 47 (Operand.tmp 1) 1)⟩,
       ⟨some (16, false), some 20, (Op.load 45 (Operand.tmp 19))⟩,
       ⟨some (16, false), some 21, (Op.call ⟨(Callee.builtin Builtin.len), #[(Operand.tmp 20)], #[45]⟩)⟩,
       ⟨some (16, false), some 22, (Op.call ⟨(Callee.value (Operand.func 76)), #[(Operand.tmp 18), (Operand.const (Value.int IntKind.i64 0)), (Operand.tmp 21)], #[3, 3, 3]⟩)⟩,
       ⟨some (16, false), some 23, (Op.unOp UnOp.not 4 (Operand.tmp 22))⟩,
       ⟨none, some 24, (Op.pick (Operand.tmp 16) (Operand.const (Value.bool true)) (Operand.tmp 23))⟩])
    (.cond (Operand.tmp 24) (.seq (.reg [⟨none, some 2, (Op.assign (Operand.const (Value.slice none 0 0)))⟩])
      (.ret)) (.skip)))
   (.seq (.reg [⟨none, some 25, (Op.fieldAddr 47 (Operand.tmp 1) 0)⟩,
       ⟨none, some 26, (Op.load 25 (Operand.tmp 25))⟩,
       ⟨none, some 3, (Op.alloc 25)⟩,
       ⟨none, none, (Op.store 25 (Operand.tmp 3) (Operand.tmp 26))⟩])
    (.seq (.reg [⟨none, some 4, (Op.assign (Operand.const (Value.slice none 0 0)))⟩])
     (.seq (.reg [⟨none, some 5, (Op.assign (Operand.const (Value.int IntKind.i64 0)))⟩])
      (.block 0 (.loop ac27_l0))))))
theorem vc27 {args : List AV} {L : List (Nat × Ob)} {R : AV → List (Nat × Ob) → Prop} (ha : args.length ≤ 54) (hL : (L.map (·.1)).Nodup)
    (h : ev Go.Proofs.Tryd.prog ⟨54, L.map (·.1)⟩ ac27 (retQ Go.Proofs.Tryd.prog [(ResultVar.tmp 2)] R) ⟨argT args, hpOf L, Us.of (L.map (·.1))⟩) : ACall Go.Proofs.Tryd.prog 27 args L R :=
  acallA (by kernel_rfl) 54 [(11, [⟨0, [3], [], [], [6, 7, 8, 9, 10]⟩, ⟨1, [], [3], [], [2, 4, 5, 6, 7, 8, 9, 10]⟩, ⟨2, [1], [3], [], [4, 5, 6, 7, 8, 9, 10]⟩, ⟨3, [], [3, 1], [], [4, 5, 6, 7, 8, 9, 10]⟩, ⟨4, [], [3], [], [5, 6, 7, 8, 9, 10]⟩, ⟨5, [], [3], [], [6, 7, 8, 9, 10]⟩, ⟨6, [], [], [], [7, 8, 9, 10]⟩, ⟨7, [], [], [], [8, 9, 10]⟩, ⟨8, [], [], [], [10]⟩, ⟨9, [], [], [], []⟩, ⟨10, [], [], [], []⟩])] [(ResultVar.tmp 2)] Go.Proofs.Tryd.func27 (by kernel_rfl) Go.Proofs.Tryd.ntmps27 (by kernel_rfl) ha hL (va_of_ev _ h)
theorem en27 : enters Go.Proofs.Tryd.prog 27 = true := by kernel_rfl
def ac77_l0 : ACode :=
  .seq (.seq (.reg [⟨none, some 10, (Op.move (Operand.tmp 5))⟩,
      ⟨none, some 11, (Op.fieldAddr 47 (Operand.tmp 1) 1)⟩,
      ⟨none, some 12, (Op.load 45 (Operand.tmp 11))⟩,
      ⟨none, some 13, (Op.call ⟨(Callee.builtin Builtin.len), #[(Operand.tmp 12)], #[45]⟩)⟩,
      ⟨none, some 14, (Op.binOp BinOp.leq 3 (Operand.tmp 10) (Operand.tmp 13) 3)⟩])
   (.cond (Operand.tmp 14) (.skip) (.exit 0)))
  (.seq (.block 1 (.seq (.seq (.reg [⟨none, some 17, (Op.move (Operand.tmp 5))⟩,
         ⟨none, some 18, (Op.binOp BinOp.gtr 3 (Operand.tmp 17) (Operand.const (Value.int IntKind.i64 0)) 3)⟩])
      (.cond (Operand.tmp 18) (.draw [⟨⟨none, some 20, (Op.load 25 (Operand.tmp 3))⟩, [3], [], []⟩,
          ⟨⟨none, some 21, (Op.fieldAddr 47 (Operand.tmp 1) 1)⟩, [], [3], []⟩,
          ⟨⟨none, some 22, (Op.load 45 (Operand.tmp 21))⟩, [1], [3], []⟩,
          ⟨⟨none, some 23, (Op.move (Operand.tmp 5))⟩, [], [3, 1], []⟩,
          ⟨⟨none, some 24, (Op.binOp BinOp.sub 3 (Operand.tmp 23) (Operand.const (Value.int IntKind.i64 1)) 3)⟩, [], [3, 1], []⟩,
          ⟨⟨none, some 25, (Op.indexAddr 45 (Operand.tmp 22) (Operand.tmp 24))⟩, [], [3], []⟩,
          ⟨⟨none, some 26, (Op.load 27 (Operand.tmp 25))⟩, [], [3], []⟩,
          ⟨⟨none, some 27, (Op.call ⟨(Callee.value (Operand.func 17)), #[(Operand.tmp 20), (Operand.tmp 26)], #[25, 27]⟩)⟩, [], [], []⟩,
          ⟨⟨none, some 19, (Op.move (Operand.tmp 27))⟩, [], [], []⟩,
          ⟨⟨none, some 28, (Op.extract (Operand.tmp 19) 0)⟩, [], [], []⟩,
          ⟨⟨none, some 29, (Op.extract (Operand.tmp 19) 1)⟩, [], [], []⟩,
          ⟨⟨none, none, (Op.store 25 (Operand.tmp 3) (Operand.tmp 28))⟩, [], [], []⟩]) (.skip)))
     (.seq (.reg [⟨none, some 30, (Op.move (Operand.tmp 5))⟩,
         ⟨none, some 31, (Op.fieldAddr 47 (Operand.tmp 1) 2)⟩,
         ⟨none, some 32, (Op.load 3 (Operand.tmp 31))⟩,
         ⟨none, some 33, (Op.binOp BinOp.geq 3 (Operand.tmp 30) (Operand.tmp 32) 3)⟩])
      (.cond (Operand.tmp 33) (.reg [⟨none, some 34, (Op.move (Operand.tmp 4))⟩,
          ⟨none, some 35, (Op.load 25 (Operand.tmp 3))⟩,
          ⟨none, some 36, (Op.call ⟨(Callee.value (Operand.func 61)), #[(Operand.tmp 35)], #[25]⟩)⟩,
          ⟨none, some 37, (Op.buildSlice 49 1 #[(0, (Operand.tmp 36))])⟩,
          ⟨none, some 38, (Op.call ⟨(Callee.builtin Builtin.append), #[(Operand.tmp 34), (Operand.tmp 37)], #[49, 49]⟩)⟩,
          ⟨none, some 4, (Op.assign (Operand.tmp 38))⟩]) (.skip)))))
   (.reg [⟨none, some 15, (Op.move (Operand.tmp 5))⟩,
      ⟨none, some 16, (Op.binOp BinOp.add 3 (Operand.tmp 15) (Operand.const (Value.int IntKind.i64 1)) 3)⟩,
      ⟨none, some 5, (Op.assign (Operand.tmp 16))⟩]))
/-- spec.l13Books -/
def ac77 : ACode :=
  .seq (.reg [⟨none, some 1, (Op.box 47 (Operand.tmp 0))⟩,
     ⟨none, some 2, (Op.assign (Operand.const (Value.slice none 0 0)))⟩])
  (.seq (.reg [⟨none, some 6, (Op.fieldAddr 47 (Operand.tmp 1) 0)⟩,
      ⟨none, some 7, (Op.load 25 (Operand.tmp 6))⟩,
      ⟨none, some 8, (Op.call ⟨(Callee.value (Operand.func 61)), #[(Operand.tmp 7)], #[25]⟩)⟩,
      ⟨none, some 3, (Op.alloc 25)⟩,
      ⟨none, none, (Op.store 25 (Operand.tmp 3) (Operand.tmp 8))⟩])
   (.seq (.reg [⟨none, some 9, (Op.buildSlice 49 0 #[])⟩,
       ⟨none, some 4, (Op.assign (Operand.tmp 9))⟩])
    (.seq (.seq (.reg [⟨none, some 5, (Op.assign (Operand.const (Value.int IntKind.i64 0)))⟩])
      (.block 0 (.loop ac77_l0)))
     (.seq (.reg [⟨none, some 39, (Op.move (Operand.tmp 4))⟩,
         ⟨none, some 2, (Op.assign (Operand.tmp 39))⟩])
      (.ret)))))
theorem vc77 {args : List AV} {L : List (Nat × Ob)} {R : AV → List (Nat × Ob) → Prop} (ha : args.length ≤ 40) (hL : (L.map (·.1)).Nodup)
    (h : ev Go.Proofs.Tryd.prog ⟨40, L.map (·.1)⟩ ac77 (retQ Go.Proofs.Tryd.prog [(ResultVar.tmp 2)] R) ⟨argT args, hpOf L, Us.of (L.map (·.1))⟩) : ACall Go.Proofs.Tryd.prog 77 args L R :=
  acallA (by kernel_rfl) 40 [(7, [⟨0, [3], [], [], [7, 8, 9, 10, 11]⟩, ⟨1, [], [3], [], [2, 5, 6, 7, 8, 9, 10, 11]⟩, ⟨2, [1], [3], [], [5, 6, 7, 8, 9, 10, 11]⟩, ⟨3, [], [3, 1], [], [4, 5, 6, 7, 8, 9, 10, 11]⟩, ⟨4, [], [3, 1], [], [5, 6, 7, 8, 9, 10, 11]⟩, ⟨5, [], [3], [], [6, 7, 8, 9, 10, 11]⟩, ⟨6, [], [3], [], [7, 8, 9, 10, 11]⟩, ⟨7, [], [], [], [8, 9, 10, 11]⟩, ⟨8, [], [], [], [9, 10, 11]⟩, ⟨9, [], [], [], [11]⟩, ⟨10, [], [], [], []⟩, ⟨11, [], [], [], []⟩])] [(ResultVar.tmp 2)] Go.Proofs.Tryd.func77 (by kernel_rfl) Go.Proofs.Tryd.ntmps77 (by kernel_rfl) ha hL (va_of_ev _ h)
theorem en77 : enters Go.Proofs.Tryd.prog 77 = true := by kernel_rfl
/-- spec.TrailBooks -/
def ac28 : ACode :=
  .seq (.reg [⟨none, some 1, (Op.box 47 (Operand.tmp 0))⟩,
     ⟨none, some 2, (Op.assign (Operand.const (Value.slice none 0 0)))⟩])
  (.seq (.seq (.reg [⟨none, some 3, (Op.fieldAddr 47 (Operand.tmp 1) 0)⟩,
       ⟨none, some 4, (Op.load 25 (Operand.tmp 3))⟩,
       ⟨none, some 5, (Op.call ⟨(Callee.value (Operand.func 18)), #[(Operand.tmp 4)], #[25]⟩)⟩,
       ⟨none, some 6, (Op.unOp UnOp.not 4 (Operand.tmp 5))⟩,
       ⟨none, some 7, (Op.move (Operand.tmp 6))⟩,
       ⟨some (7, false), some 8, (Op.fieldAddr 47 (Operand.tmp 1) 1)⟩,
       ⟨some (7, false), some 9, (Op.load 45 (Operand.tmp 8))⟩,
       ⟨some (7, false), some 10, (Op.call ⟨(Callee.builtin Builtin.len), #[(Operand.tmp 9)], #[45]⟩)⟩,
       ⟨some (7, false), some 11, (Op.binOp BinOp.gtr 3 (Operand.tmp 10) (Operand.const (Value.int IntKind.i64 8)) 3)⟩,
       ⟨none, some 12, (Op.pick (Operand.tmp 7) (Operand.const (Value.bool true)) (Operand.tmp 11))⟩,
       ⟨none, some 13, (Op.move (Operand.tmp 12))⟩,
       ⟨some (13, false), some 14, (Op.fieldAddr 47 (Operand.tmp 1) 2)⟩,
       ⟨some (13, false), some 15, (Op.load 3 (Operand.tmp 14))⟩,
       ⟨some (13, false), some 16, (Op.binOp BinOp.lss 3 (Operand.tmp 15) (Operand.const (Value.int IntKind.i64 0)) 3)⟩,
       ⟨none, some 17, (Op.pick (Operand.tmp 13) (Operand.const (Value.bool true)) (Operand.tmp 16))⟩,
       ⟨none, some 18, (Op.move (Operand.tmp 17))⟩,
       ⟨some (18, false), some 19, (Op.fieldAddr 47 (Operand.tmp 1) 2)⟩,
       ⟨some (18, false), some 20, (Op.load 3 (Operand.tmp 19))⟩,
       ⟨some (18, false), some 21, (Op.fieldAddr 47 (Operand.tmp 1) 1)⟩,
       ⟨some (18, false), some 22, (Op.load 45 (Operand.tmp 21))⟩,
       ⟨some (18, false), some 23, (Op.call ⟨(Callee.builtin Builtin.len), #[(Operand.tmp 22)], #[45]⟩)⟩,
       ⟨some (18, false), some 24, (Op.binOp BinOp.gtr 3 (Operand.tmp 20) (Operand.tmp 23) 3)⟩,
       ⟨none, some 25, (Op.pick (Operand.tmp 18) (Operand.const (Value.bool true)) (Operand.tmp 24))⟩])
    (.cond (Operand.tmp 25) (.seq (.reg [⟨none, some 26, (Op.buildSlice 49 0 #[])⟩,
         ⟨none, some 2, (Op.assign (Operand.tmp 26))⟩])
      (.ret)) (.skip)))
   (.seq (.reg [⟨none, some 27, (Op.load 47 (Operand.tmp 1))⟩,
       ⟨none, some 28, (Op.call ⟨(Callee.value (Operand.func 77)), #[(Operand.tmp 27)], #[47]⟩)⟩,
       ⟨none, some 2, (Op.assign (Operand.tmp 28))⟩])
    (.ret)))
theorem vc28 {args : List AV} {L : List (Nat × Ob)} {R : AV → List (Nat × Ob) → Prop} (ha : args.length ≤ 29) (hL : (L.map (·.1)).Nodup)
    (h : ev Go.Proofs.Tryd.prog ⟨29, L.map (·.1)⟩ ac28 (retQ Go.Proofs.Tryd.prog [(ResultVar.tmp 2)] R) ⟨argT args, hpOf L, Us.of (L.map (·.1))⟩) : ACall Go.Proofs.Tryd.prog 28 args L R :=
  acallA (by kernel_rfl) 29 [] [(ResultVar.tmp 2)] Go.Proofs.Tryd.func28 (by kernel_rfl) Go.Proofs.Tryd.ntmps28 (by kernel_rfl) ha hL (va_of_ev _ h)
theorem en28 : enters Go.Proofs.Tryd.prog 28 = true := by kernel_rfl
def ac75_l0 : ACode :=
  .seq (.seq (.reg [⟨none, some 17, (Op.move (Operand.tmp 5))⟩,
      ⟨none, some 18, (Op.binOp BinOp.gtr 3 (Operand.tmp 17) (Operand.const (Value.int IntKind.i64 0)) 3)⟩])
   (.cond (Operand.tmp 18) (.skip) (.exit 0)))
  (.seq (.block 1 (.seq (.reg [⟨none, some 21, (Op.move (Operand.tmp 0))⟩,
        ⟨none, some 22, (Op.load 25 (Operand.tmp 4))⟩,
        ⟨none, some 23, (Op.call ⟨(Callee.value (Operand.func 57)), #[(Operand.tmp 21), (Operand.tmp 22)], #[88, 25]⟩)⟩,
        ⟨none, some 6, (Op.alloc 27)⟩,
        ⟨none, none, (Op.store 27 (Operand.tmp 6) (Operand.tmp 23))⟩])
     (.seq (.reg [⟨none, some 24, (Op.fieldAddr 27 (Operand.tmp 6) 0)⟩,
         ⟨none, none, (Op.store 3 (Operand.tmp 24) (Operand.const (Value.int IntKind.i64 3)))⟩])
      (.reg [⟨none, some 25, (Op.fieldAddr 47 (Operand.tmp 3) 1)⟩,
         ⟨none, some 26, (Op.load 45 (Operand.tmp 25))⟩,
         ⟨none, some 27, (Op.load 27 (Operand.tmp 6))⟩,
         ⟨none, some 28, (Op.buildSlice 45 1 #[(0, (Operand.tmp 27))])⟩,
         ⟨none, some 29, (Op.call ⟨(Callee.builtin Builtin.append), #[(Operand.tmp 26), (Operand.tmp 28)], #[45, 45]⟩)⟩,
         ⟨none, some 30, (Op.fieldAddr 47 (Operand.tmp 3) 1)⟩,
         ⟨none, none, (Op.store 45 (Operand.tmp 30) (Operand.tmp 29))⟩]))))
   (.reg [⟨none, some 19, (Op.move (Operand.tmp 5))⟩,
      ⟨none, some 20, (Op.binOp BinOp.sub 3 (Operand.tmp 19) (Operand.const (Value.int IntKind.i64 1)) 3)⟩,
      ⟨none, some 5, (Op.assign (Operand.tmp 20))⟩]))
/-- spec.l13Trail -/
def ac75 : ACode :=
  .seq (.reg [⟨none, some 2, (Op.alloc 47)⟩])
  (.seq (.reg [⟨none, some 7, (Op.move (Operand.tmp 0))⟩,
      ⟨none, some 8, (Op.move (Operand.tmp 0))⟩,
      ⟨none, some 9, (Op.buildSlice 54 3 #[(0, (Operand.const (Value.int IntKind.i64 0))), (1, (Operand.const (Value.int IntKind.i64 6))), (2, (Operand.const (Value.int IntKind.i64 14)))])⟩,
      ⟨none, some 10, (Op.call ⟨(Callee.value (Operand.func 115)), #[(Operand.tmp 8), (Operand.tmp 9)], #[88, 54]⟩)⟩,
      ⟨none, some 11, (Op.call ⟨(Callee.value (Operand.func 114)), #[(Operand.tmp 7), (Operand.tmp 10)], #[88, 3]⟩)⟩,
      ⟨none, some 12, (Op.build 47 #[(0, (Operand.tmp 11))])⟩,
      ⟨none, some 3, (Op.alloc 47)⟩,
      ⟨none, none, (Op.store 47 (Operand.tmp 3) (Operand.tmp 12))⟩])
   (.seq (.reg [⟨none, some 13, (Op.fieldAddr 47 (Operand.tmp 3) 0)⟩,
       ⟨none, some 14, (Op.load 25 (Operand.tmp 13))⟩,
       ⟨none, some 4, (Op.alloc 25)⟩,
       ⟨none, none, (Op.store 25 (Operand.tmp 4) (Operand.tmp 14))⟩])
    (.seq (.seq (.reg [⟨none, some 15, (Op.move (Operand.tmp 0))⟩,
         ⟨none, some 16, (Op.call ⟨(Callee.value (Operand.func 116)), #[(Operand.tmp 15), (Operand.const (Value.int IntKind.i64 9))], #[88, 3]⟩)⟩,
         ⟨none, some 5, (Op.assign (Operand.tmp 16))⟩])
      (.block 0 (.loop ac75_l0)))
     (.seq (.reg [⟨none, some 31, (Op.move (Operand.tmp 0))⟩,
         ⟨none, some 32, (Op.fieldAddr 47 (Operand.tmp 3) 1)⟩,
         ⟨none, some 33, (Op.load 45 (Operand.tmp 32))⟩,
         ⟨none, some 34, (Op.call ⟨(Callee.builtin Builtin.len), #[(Operand.tmp 33)], #[45]⟩)⟩,
         ⟨none, some 35, (Op.binOp BinOp.add 3 (Operand.tmp 34) (Operand.const (Value.int IntKind.i64 1)) 3)⟩,
         ⟨none, some 36, (Op.call ⟨(Callee.value (Operand.func 116)), #[(Operand.tmp 31), (Operand.tmp 35)], #[88, 3]⟩)⟩,
         ⟨none, some 37, (Op.fieldAddr 47 (Operand.tmp 3) 2)⟩,
         ⟨none, none, (Op.store 3 (Operand.tmp 37) (Operand.tmp 36))⟩])
      (.seq (.seq (.reg [⟨none, some 38, (Op.move (Operand.tmp 0))⟩,
           ⟨none, some 39, (Op.call ⟨(Callee.value (Operand.func 116)), #[(Operand.tmp 38), (Operand.const (Value.int IntKind.i64 20))], #[88, 3]⟩)⟩])
        (.block 2 (.seq (.reg [⟨none, some 41, (Op.binOp BinOp.eql 3 (Operand.tmp 39) (Operand.const (Value.int IntKind.i64 0)) 3)⟩,
             ⟨none, some 40, (Op.assign (Operand.tmp 41))⟩])
          (.cond (Operand.tmp 40) (.reg [⟨none, some 42, (Op.move (Operand.tmp 0))⟩,
              ⟨none, some 43, (Op.buildSlice 54 2 #[(0, (Operand.const (Value.int IntKind.i64 (-1)))), (1, (Operand.const (Value.int IntKind.i64 9)))])⟩,
              ⟨none, some 44, (Op.call ⟨(Callee.value (Operand.func 115)), #[(Operand.tmp 42), (Operand.tmp 43)], #[88, 54]⟩)⟩,
              ⟨none, some 45, (Op.fieldAddr 47 (Operand.tmp 3) 2)⟩,
              ⟨none, none, (Op.store 3 (Operand.tmp 45) (Operand.tmp 44))⟩]) (.seq (.reg [⟨none, some 47, (Op.binOp BinOp.eql 3 (Operand.tmp 39) (Operand.const (Value.int IntKind.i64 1)) 3)⟩,
               ⟨none, some 46, (Op.assign (Operand.tmp 47))⟩])
            (.cond (Operand.tmp 46) (.draw [⟨⟨none, some 48, (Op.fieldAddr 47 (Operand.tmp 3) 1)⟩, [], [], []⟩,
                ⟨⟨none, some 49, (Op.load 45 (Operand.tmp 48))⟩, [3], [], []⟩,
                ⟨⟨none, some 50, (Op.fieldAddr 47 (Operand.tmp 3) 1)⟩, [], [3], []⟩,
                ⟨⟨none, some 51, (Op.load 45 (Operand.tmp 50))⟩, [3], [3], []⟩,
                ⟨⟨none, some 52, (Op.fieldAddr 47 (Operand.tmp 3) 1)⟩, [], [3], []⟩,
                ⟨⟨none, some 53, (Op.load 45 (Operand.tmp 52))⟩, [3], [3], []⟩,
                ⟨⟨none, some 54, (Op.call ⟨(Callee.builtin Builtin.append), #[(Operand.tmp 51), (Operand.tmp 53)], #[45, 45]⟩)⟩, [], [3], []⟩,
                ⟨⟨none, some 55, (Op.call ⟨(Callee.builtin Builtin.append), #[(Operand.tmp 49), (Operand.tmp 54)], #[45, 45]⟩)⟩, [], [], []⟩,
                ⟨⟨none, some 56, (Op.fieldAddr 47 (Operand.tmp 3) 1)⟩, [], [], []⟩,
                ⟨⟨none, none, (Op.store 45 (Operand.tmp 56) (Operand.tmp 55))⟩, [], [], []⟩]) (.skip)))))))
       (.seq (.reg [⟨none, some 57, (Op.load 47 (Operand.tmp 3))⟩,
           ⟨none, none, (Op.store 47 (Operand.tmp 2) (Operand.tmp 57))⟩])
        (.ret)))))))
theorem vc75 {args : List AV} {L : List (Nat × Ob)} {R : AV → List (Nat × Ob) → Prop} (ha : args.length ≤ 58) (hL : (L.map (·.1)).Nodup)
    (h : ev Go.Proofs.Tryd.prog ⟨58, L.map (·.1)⟩ ac75 (retQ Go.Proofs.Tryd.prog [(ResultVar.cell 2 47)] R) ⟨argT args, hpOf L, Us.of (L.map (·.1))⟩) : ACall Go.Proofs.Tryd.prog 75 args L R :=
  acallA (by kernel_rfl) 58 [(14, [⟨0, [], [], [], [1, 7, 8, 9]⟩, ⟨1, [3], [], [], [7, 8, 9]⟩, ⟨2, [], [3], [], [3, 6, 7, 8, 9]⟩, ⟨3, [3], [3], [], [6, 7, 8, 9]⟩, ⟨4, [], [3], [], [5, 6, 7, 8, 9]⟩, ⟨5, [3], [3], [], [6, 7, 8, 9]⟩, ⟨6, [], [3], [], [7, 8, 9]⟩, ⟨7, [], [], [], [8, 9]⟩, ⟨8, [], [], [], [9]⟩, ⟨9, [], [], [], []⟩])] [(ResultVar.cell 2 47)] Go.Proofs.Tryd.func75 (by kernel_rfl) Go.Proofs.Tryd.ntmps75 (by kernel_rfl) ha hL (va_of_ev _ h)
theorem en75 : enters Go.Proofs.Tryd.prog 75 = true := by kernel_rfl
/-- spec.DrawTrailBooks -/
def ac26 : ACode :=
  .seq (.reg [⟨none, some 2, (Op.alloc 47)⟩])
  (.seq (.reg [⟨none, some 3, (Op.move (Operand.tmp 0))⟩,
      ⟨none, some 4, (Op.call ⟨(Callee.value (Operand.func 55)), #[(Operand.tmp 3)], #[22]⟩)⟩,
      ⟨none, some 5, (Op.call ⟨(Callee.value (Operand.func 75)), #[(Operand.tmp 4)], #[88]⟩)⟩,
      ⟨none, none, (Op.store 47 (Operand.tmp 2) (Operand.tmp 5))⟩])
   (.ret))
theorem vc26 {args : List AV} {L : List (Nat × Ob)} {R : AV → List (Nat × Ob) → Prop} (ha : args.length ≤ 6) (hL : (L.map (·.1)).Nodup)
    (h : ev Go.Proofs.Tryd.prog ⟨6, L.map (·.1)⟩ ac26 (retQ Go.Proofs.Tryd.prog [(ResultVar.cell 2 47)] R) ⟨argT args, hpOf L, Us.of (L.map (·.1))⟩) : ACall Go.Proofs.Tryd.prog 26 args L R :=
  acallA (by kernel_rfl) 6 [] [(ResultVar.cell 2 47)] Go.Proofs.Tryd.func26 (by kernel_rfl) Go.Proofs.Tryd.ntmps26 (by kernel_rfl) ha hL (va_of_ev _ h)
theorem en26 : enters Go.Proofs.Tryd.prog 26 = true := by kernel_rfl
def ac7_l0 : ACode :=
  .seq (.seq (.reg [⟨none, some 22, (Op.move (Operand.tmp 6))⟩,
      ⟨none, some 23, (Op.move (Operand.tmp 4))⟩,
      ⟨none, some 24, (Op.call ⟨(Callee.builtin Builtin.len), #[(Operand.tmp 23)], #[49]⟩)⟩,
      ⟨none, some 25, (Op.binOp BinOp.lss 3 (Operand.tmp 22) (Operand.tmp 24) 3)⟩])
   (.cond (Operand.tmp 25) (.skip) (.exit 0)))
  (.seq (.block 1 (.seq (.draw [⟨⟨none, some 28, (Op.move (Operand.tmp 4))⟩, [], [], []⟩,
        ⟨⟨none, some 29, (Op.move (Operand.tmp 6))⟩, [], [], []⟩,
        ⟨⟨none, some 30, (Op.indexAddr 49 (Operand.tmp 28) (Operand.tmp 29))⟩, [], [], []⟩,
        ⟨⟨none, some 31, (Op.load 25 (Operand.tmp 30))⟩, [], [], []⟩,
        ⟨⟨none, some 32, (Op.move (Operand.tmp 5))⟩, [], [], []⟩,
        ⟨⟨none, some 33, (Op.move (Operand.tmp 6))⟩, [], [], []⟩,
        ⟨⟨none, some 34, (Op.indexAddr 49 (Operand.tmp 32) (Operand.tmp 33))⟩, [], [], []⟩,
        ⟨⟨none, some 35, (Op.load 25 (Operand.tmp 34))⟩, [], [], []⟩,
        ⟨⟨none, some 36, (Op.call ⟨(Callee.value (Operand.func 20)), #[(Operand.tmp 31), (Operand.tmp 35)], #[25, 25]⟩)⟩, [], [], []⟩,
        ⟨⟨none, some 37, (Op.unOp UnOp.not 4 (Operand.tmp 36))⟩, [], [], []⟩,
        ⟨⟨none, some 38, (Op.move (Operand.tmp 37))⟩, [], [], []⟩,
        ⟨⟨some (38, false), some 39, (Op.move (Operand.tmp 4))⟩, [], [], []⟩,
        ⟨⟨some (38, false), some 40, (Op.move (Operand.tmp 6))⟩, [], [], []⟩,
        ⟨⟨some (38, false), some 41, (Op.indexAddr 49 (Operand.tmp 39) (Operand.tmp 40))⟩, [], [], []⟩,
        ⟨⟨some (38, false), some 42, (Op.load 25 (Operand.tmp 41))⟩, [], [], []⟩,
        ⟨⟨some (38, false), some 43, (Op.call ⟨(Callee.value (Operand.func 21)), #[(Operand.tmp 42)], #[25]⟩)⟩, [], [], []⟩,
        ⟨⟨some (38, false), some 44, (Op.unOp UnOp.not 4 (Operand.tmp 43))⟩, [], [], []⟩,
        ⟨⟨none, some 45, (Op.pick (Operand.tmp 38) (Operand.const (Value.bool true)) (Operand.tmp 44))⟩, [], [], []⟩])
     (.cond (Operand.tmp 45) (.seq (.reg [⟨none, some 2, (Op.assign (Operand.const (Value.bool false)))⟩])
       (.ret)) (.skip))))
   (.reg [⟨none, some 26, (Op.move (Operand.tmp 6))⟩,
      ⟨none, some 27, (Op.binOp BinOp.add 3 (Operand.tmp 26) (Operand.const (Value.int IntKind.i64 1)) 3)⟩,
      ⟨none, some 6, (Op.assign (Operand.tmp 27))⟩]))
/-- laws.FnTrailBooks -/
def ac7 : ACode :=
  .seq (.reg [⟨none, some 2, (Op.assign (Operand.const (Value.bool false)))⟩])
  (.seq (.seq (.reg [⟨none, some 8, (Op.move (Operand.tmp 0))⟩,
       ⟨none, some 9, (Op.call ⟨(Callee.builtin Builtin.len), #[(Operand.tmp 8)], #[22]⟩)⟩,
       ⟨none, some 10, (Op.binOp BinOp.gtr 3 (Operand.tmp 9) (Operand.const (Value.int IntKind.i64 1048576)) 3)⟩])
    (.cond (Operand.tmp 10) (.seq (.reg [⟨none, some 2, (Op.assign (Operand.const (Value.bool true)))⟩])
      (.ret)) (.skip)))
   (.seq (.reg [⟨none, some 11, (Op.move (Operand.tmp 0))⟩,
       ⟨none, some 12, (Op.call ⟨(Callee.value (Operand.func 26)), #[(Operand.tmp 11)], #[22]⟩)⟩,
       ⟨none, some 3, (Op.alloc 47)⟩,
       ⟨none, none, (Op.store 47 (Operand.tmp 3) (Operand.tmp 12))⟩])
    (.seq (.reg [⟨none, some 13, (Op.load 47 (Operand.tmp 3))⟩,
        ⟨none, some 14, (Op.call ⟨(Callee.value (Operand.func 27)), #[(Operand.tmp 13)], #[47]⟩)⟩,
        ⟨none, some 4, (Op.assign (Operand.tmp 14))⟩])
     (.seq (.reg [⟨none, some 15, (Op.load 47 (Operand.tmp 3))⟩,
         ⟨none, some 16, (Op.call ⟨(Callee.value (Operand.func 28)), #[(Operand.tmp 15)], #[47]⟩)⟩,
         ⟨none, some 5, (Op.assign (Operand.tmp 16))⟩])
      (.seq (.seq (.reg [⟨none, some 17, (Op.move (Operand.tmp 4))⟩,
           ⟨none, some 18, (Op.call ⟨(Callee.builtin Builtin.len), #[(Operand.tmp 17)], #[49]⟩)⟩,
           ⟨none, some 19, (Op.move (Operand.tmp 5))⟩,
           ⟨none, some 20, (Op.call ⟨(Callee.builtin Builtin.len), #[(Operand.tmp 19)], #[49]⟩)⟩,
           ⟨none, some 21, (Op.binOp BinOp.neq 3 (Operand.tmp 18) (Operand.tmp 20) 3)⟩])
        (.cond (Operand.tmp 21) (.seq (.reg [⟨none, some 2, (Op.assign (Operand.const (Value.bool false)))⟩])
          (.ret)) (.skip)))
       (.seq (.seq (.reg [⟨none, some 6, (Op.assign (Operand.const (Value.int IntKind.i64 0)))⟩])
         (.block 0 (.loop ac7_l0)))
        (.seq (.seq (.reg [⟨none, some 46, (Op.move (Operand.tmp 4))⟩,
             ⟨none, some 47, (Op.call ⟨(Callee.builtin Builtin.len), #[(Operand.tmp 46)], #[49]⟩)⟩,
             ⟨none, some 48, (Op.binOp BinOp.eql 3 (Operand.tmp 47) (Operand.const (Value.int IntKind.i64 0)) 3)⟩])
          (.cond (Operand.tmp 48) (.seq (.reg [⟨none, some 2, (Op.assign (Operand.const (Value.bool true)))⟩])
            (.ret)) (.skip)))
         (.seq (.seq (.reg [⟨none, some 49, (Op.move (Operand.tmp 4))⟩,
              ⟨none, some 50, (Op.call ⟨(Callee.builtin Builtin.len), #[(Operand.tmp 49)], #[49]⟩)⟩,
              ⟨none, some 51, (Op.fieldAddr 47 (Operand.tmp 3) 1)⟩,
              ⟨none, some 52, (Op.load 45 (Operand.tmp 51))⟩,
              ⟨none, some 53, (Op.call ⟨(Callee.builtin Builtin.len), #[(Operand.tmp 52)], #[45]⟩)⟩,
              ⟨none, some 54, (Op.fieldAddr 47 (Operand.tmp 3) 2)⟩,
              ⟨none, some 55, (Op.load 3 (Operand.tmp 54))⟩,
              ⟨none, some 56, (Op.binOp BinOp.sub 3 (Operand.tmp 53) (Operand.tmp 55) 3)⟩,
              ⟨none, some 57, (Op.binOp BinOp.add 3 (Operand.tmp 56) (Operand.const (Value.int IntKind.i64 1)) 3)⟩,
              ⟨none, some 58, (Op.binOp BinOp.neq 3 (Operand.tmp 50) (Operand.tmp 57) 3)⟩,
              ⟨none, some 59, (Op.move (Operand.tmp 58))⟩,
              ⟨some (59, false), some 60, (Op.fieldAddr 47 (Operand.tmp 3) 2)⟩,
              ⟨some (59, false), some 61, (Op.load 3 (Operand.tmp 60))⟩,
              ⟨some (59, false), some 62, (Op.binOp BinOp.eql 3 (Operand.tmp 61) (Operand.const (Value.int IntKind.i64 0)) 3)⟩,
              ⟨none, some 63, (Op.pick (Operand.tmp 59) (Operand.const (Value.bool true)) (Operand.tmp 62))⟩])
           (.cond (Operand.tmp 63) (.seq (.reg [⟨none, some 64, (Op.fieldAddr 47 (Operand.tmp 3) 2)⟩,
                ⟨none, some 65, (Op.load 3 (Operand.tmp 64))⟩,
                ⟨none, some 66, (Op.binOp BinOp.eql 3 (Operand.tmp 65) (Operand.const (Value.int IntKind.i64 0)) 3)⟩,
                ⟨none, some 67, (Op.move (Operand.tmp 66))⟩,
                ⟨some (67, true), some 68, (Op.move (Operand.tmp 4))⟩,
                ⟨some (67, true), some 69, (Op.call ⟨(Callee.builtin Builtin.len), #[(Operand.tmp 68)], #[49]⟩)⟩,
                ⟨some (67, true), some 70, (Op.fieldAddr 47 (Operand.tmp 3) 1)⟩,
                ⟨some (67, true), some 71, (Op.load 45 (Operand.tmp 70))⟩,
                ⟨some (67, true), some 72, (Op.call ⟨(Callee.builtin Builtin.len), #[(Operand.tmp 71)], #[45]⟩)⟩,
                ⟨some (67, true), some 73, (Op.binOp BinOp.add 3 (Operand.tmp 72) (Operand.const (Value.int IntKind.i64 1)) 3)⟩,
                ⟨some (67, true), some 74, (Op.binOp BinOp.eql 3 (Operand.tmp 69) (Operand.tmp 73) 3)⟩,
                ⟨none, some 75, (Op.pick (Operand.tmp 67) (Operand.tmp 74) (Operand.const (Value.bool false)))⟩,
                ⟨none, some 2, (Op.assign (Operand.tmp 75))⟩])
             (.ret)) (.skip)))
          (.seq (.reg [⟨none, some 76, (Op.fieldAddr 47 (Operand.tmp 3) 2)⟩,
              ⟨none, some 77, (Op.load 3 (Operand.tmp 76))⟩,
              ⟨none, some 78, (Op.binOp BinOp.sub 3 (Operand.tmp 77) (Operand.const (Value.int IntKind.i64 1)) 3)⟩,
              ⟨none, some 79, (Op.fieldAddr 47 (Operand.tmp 3) 2)⟩,
              ⟨none, none, (Op.store 3 (Operand.tmp 79) (Operand.tmp 78))⟩])
           (.seq (.reg [⟨none, some 80, (Op.load 47 (Operand.tmp 3))⟩,
               ⟨none, some 81, (Op.call ⟨(Callee.value (Operand.func 27)), #[(Operand.tmp 80)], #[47]⟩)⟩,
               ⟨none, some 7, (Op.assign (Operand.tmp 81))⟩])
            (.seq (.draw [⟨⟨none, some 82, (Op.move (Operand.tmp 7))⟩, [], [], []⟩,
                ⟨⟨none, some 83, (Op.call ⟨(Callee.builtin Builtin.len), #[(Operand.tmp 82)], #[49]⟩)⟩, [], [], []⟩,
                ⟨⟨none, some 84, (Op.move (Operand.tmp 4))⟩, [], [], []⟩,
                ⟨⟨none, some 85, (Op.call ⟨(Callee.builtin Builtin.len), #[(Operand.tmp 84)], #[49]⟩)⟩, [], [], []⟩,
                ⟨⟨none, some 86, (Op.binOp BinOp.add 3 (Operand.tmp 85) (Operand.const (Value.int IntKind.i64 1)) 3)⟩, [], [], []⟩,
                ⟨⟨none, some 87, (Op.binOp BinOp.eql 3 (Operand.tmp 83) (Operand.tmp 86) 3)⟩, [], [], []⟩,
                ⟨⟨none, some 88, (Op.move (Operand.tmp 87))⟩, [], [], []⟩,
                ⟨⟨some (88, true), some 89, (Op.move (Operand.tmp 7))⟩, [], [], []⟩,
                ⟨⟨some (88, true), some 90, (Op.indexAddr 49 (Operand.tmp 89) (Operand.const (Value.int IntKind.i64 1)))⟩, [], [], []⟩,
                ⟨⟨some (88, true), some 91, (Op.load 25 (Operand.tmp 90))⟩, [], [], []⟩,
                ⟨⟨some (88, true), some 92, (Op.move (Operand.tmp 4))⟩, [], [], []⟩,
                ⟨⟨some (88, true), some 93, (Op.indexAddr 49 (Operand.tmp 92) (Operand.const (Value.int IntKind.i64 0)))⟩, [], [], []⟩,
                ⟨⟨some (88, true), some 94, (Op.load 25 (Operand.tmp 93))⟩, [], [], []⟩,
                ⟨⟨some (88, true), some 95, (Op.call ⟨(Callee.value (Operand.func 20)), #[(Operand.tmp 91), (Operand.tmp 94)], #[25, 25]⟩)⟩, [], [], []⟩,
                ⟨⟨none, some 96, (Op.pick (Operand.tmp 88) (Operand.tmp 95) (Operand.const (Value.bool false)))⟩, [], [], []⟩,
                ⟨⟨none, some 2, (Op.assign (Operand.tmp 96))⟩, [], [], []⟩])
             (.ret))))))))))))
theorem vc7 {args : List AV} {L : List (Nat × Ob)} {R : AV → List (Nat × Ob) → Prop} (ha : args.length ≤ 97) (hL : (L.map (·.1)).Nodup)
    (h : ev Go.Proofs.Tryd.prog ⟨97, L.map (·.1)⟩ ac7 (retQ Go.Proofs.Tryd.prog [(ResultVar.tmp 2)] R) ⟨argT args, hpOf L, Us.of (L.map (·.1))⟩) : ACall Go.Proofs.Tryd.prog 7 args L R :=
  acallA (by kernel_rfl) 97 [(11, [⟨0, [], [], [], [2, 3, 8, 9, 10, 11, 12, 13, 14, 15, 16, 17]⟩, ⟨1, [], [], [], [2, 3, 8, 9, 10, 11, 12, 13, 14, 15, 16, 17]⟩, ⟨2, [], [], [], [3, 8, 9, 10, 11, 12, 13, 14, 15, 16, 17]⟩, ⟨3, [], [], [], [8, 9, 10, 11, 12, 13, 14, 15, 16, 17]⟩, ⟨4, [], [], [], [6, 7, 8, 9, 10, 11, 12, 13, 14, 15, 16, 17]⟩, ⟨5, [], [], [], [6, 7, 8, 9, 10, 11, 12, 13, 14, 15, 16, 17]⟩, ⟨6, [], [], [], [7, 8, 9, 10, 11, 12, 13, 14, 15, 16, 17]⟩, ⟨7, [], [], [], [8, 9, 10, 11, 12, 13, 14, 15, 16, 17]⟩, ⟨8, [], [], [], [9, 10, 11, 12, 13, 14, 15, 16, 17]⟩, ⟨9, [], [], [], [10, 11, 12, 13, 14, 15, 16, 17]⟩, ⟨10, [], [], [], [11, 12, 13, 14, 15, 16, 17]⟩, ⟨11, [], [], [], [13, 14, 15, 16, 17]⟩, ⟨12, [], [], [], [13, 14, 15, 16, 17]⟩, ⟨13, [], [], [], [14, 15, 16, 17]⟩, ⟨14, [], [], [], [15, 16, 17]⟩, ⟨15, [], [], [], [16, 17]⟩, ⟨16, [], [], [], [17]⟩, ⟨17, [], [], [], []⟩]), (19, [⟨0, [], [], [], [1, 5, 6, 7, 8, 9, 10, 11, 12, 13, 14, 15]⟩, ⟨1, [], [], [], [5, 6, 7, 8, 9, 10, 11, 12, 13, 14, 15]⟩, ⟨2, [], [], [], [3, 4, 5, 6, 7, 8, 9, 10, 11, 12, 13, 14, 15]⟩, ⟨3, [], [], [], [4, 5, 6, 7, 8, 9, 10, 11, 12, 13, 14, 15]⟩, ⟨4, [], [], [], [5, 6, 7, 8, 9, 10, 11, 12, 13, 14, 15]⟩, ⟨5, [], [], [], [6, 7, 8, 9, 10, 11, 12, 13, 14, 15]⟩, ⟨6, [], [], [], [7, 8, 9, 10, 11, 12, 13, 14, 15]⟩, ⟨7, [], [], [], [8, 9, 13, 14, 15]⟩, ⟨8, [], [], [], [9, 13, 14, 15]⟩, ⟨9, [], [], [], [13, 14, 15]⟩, ⟨10, [], [], [], [11, 12, 13, 14, 15]⟩, ⟨11, [], [], [], [12, 13, 14, 15]⟩, ⟨12, [], [], [], [13, 14, 15]⟩, ⟨13, [], [], [], [14, 15]⟩, ⟨14, [], [], [], [15]⟩, ⟨15, [], [], [], []⟩])] [(ResultVar.tmp 2)] Go.Proofs.Tryd.func7 (by kernel_rfl) Go.Proofs.Tryd.ntmps7 (by kernel_rfl) ha hL (va_of_ev _ h)
theorem en7 : enters Go.Proofs.Tryd.prog 7 = true := by kernel_rfl
end Go.Av.F
end

section
namespace Go.Av.F
open Go Go.Av
set_option linter.unusedSimpArgs false
set_option linter.unusedVariables false
set_option maxRecDepth 100000
attribute [local simp] tt3 tt4 tt9 tt5 tt22 tt25 tt23 tt35 tt33 tt27 tt42 tt54 tt45 tt47 tt49

/-! ### What may be there behind a crash -/
structure TR where
  base : List BS
  since : List BO
  sure : Int
def TR.row (t : TR) : List AV := [.lst 11 (t.base.map BS.row), .lst 5 (t.since.map BO.row), .int .i64 t.sure]

/-- The books from the one with 'k' calls on. -/
def stepB (b : List BS) (ops : List BO) : List BS := ops.foldl (fun b o => (resB b o).1) b
def nthB (t : TR) (k : Nat) : List BS := stepB t.base (t.since.take k)
def booksB (t : TR) : List (List BS) := if bookOkB t.base = true ∧ t.since.length ≤ 8 ∧ 0 ≤ t.sure ∧ t.sure ≤ t.since.length then (List.range (t.since.length + 1 - t.sure.toNat)).map fun i => nthB t (t.sure.toNat + i) else []
def bkRow (b : List BS) : List AV := [.lst 11 (b.map BS.row)]
def bksOb (l : List (List BS)) : Ob := ⟨1, l.map bkRow⟩
theorem bks_sz (l : List (List BS)) : (bksOb l).sz = 1 := rfl
theorem bks_els (l : List (List BS)) : (bksOb l).els = l.map bkRow := rfl
theorem renL_bkc (ρ : Nat → Option Plc) : (renL ρ ∘ bkRow) = bkRow := by funext x; simp [bkRow]
theorem take_bks (l : List (List BS)) : List.take l.length (l.map bkRow) = l.map bkRow := List.take_of_length_le (by simp)
attribute [local simp] bks_sz bks_els renL_bkc take_bks
theorem op_len (o : BO) : (BO.row o).length = 5 := rfl
theorem op_take (o : BO) : (BO.row o).take 5 = BO.row o := rfl
attribute [local simp] op_len op_take
def TrG (t : TR) : Prop := BkG t.base ∧ t.base.length ≤ 1000 ∧ (∀ o ∈ t.since, OpG o) ∧ t.since.length ≤ 1000

theorem nth_zero (t : TR) : nthB t 0 = t.base := rfl
theorem nth_step (t : TR) {k : Nat} {o : BO} (h : t.since[k]? = some o) : nthB t (k + 1) = (resB (nthB t k) o).1 := by
  unfold nthB stepB
  rw [List.take_add_one, h]
  simp
theorem nth_good {t : TR} (h : TrG t) : ∀ k, BkG (nthB t k) ∧ (nthB t k).length ≤ t.base.length + k
  | 0 => ⟨h.1, by simp [nth_zero]⟩
  | k + 1 => by
    obtain ⟨h1, h2⟩ := nth_good h k
    cases hk : t.since[k]? with
    | none =>
      have : nthB t (k + 1) = nthB t k := by unfold nthB; rw [List.take_add_one, hk]; simp
      rw [this]; exact ⟨h1, by omega⟩
    | some o =>
      rw [nth_step t hk]
      have := resB_len (nthB t k) o
      exact ⟨resB_gd h1 (h.2.2.1 o (List.mem_of_getElem? hk)), by omega⟩

/-- The books so far. -/
def accT (t : TR) (k : Nat) : List (List BS) := (List.range (k - t.sure.toNat)).map fun i => nthB t (t.sure.toNat + i)
theorem accT_step (t : TR) (k : Nat) : accT t (k + 1) = accT t k ++ (if t.sure.toNat ≤ k then [nthB t k] else []) := by
  unfold accT
  by_cases h : t.sure.toNat ≤ k
  · rw [if_pos h, show k + 1 - t.sure.toNat = (k - t.sure.toNat) + 1 by omega, List.range_succ, List.map_append]
    simp
    congr 1
    omega
  · rw [if_neg h, show k + 1 - t.sure.toNat = 0 by omega, show k - t.sure.toNat = 0 by omega]
    simp

def itSt (t : TR) (k : Nat) : S :=
  ⟨mkT [(1, .ptr 1 0 0), (3, .ptr 3 0 0), (4, .sl 4 0 (accT t k).length), (5, .int .i64 k)], hpOf [(1, ⟨3, [t.row]⟩), (3, ⟨1, [bkRow (nthB t k)]⟩), (4, bksOb (accT t k))], Us.of [1, 3, 4]⟩

def okT (t : TR) : Prop := bookOkB t.base = true ∧ t.since.length ≤ 8 ∧ 0 ≤ t.sure ∧ t.sure ≤ t.since.length
theorem ownP (b : List BS) (hl : b.length < 1000000) : ACall Go.Proofs.Tryd.prog 58 [bk b] [] (fun r L' => r = bk b ∧ L' = []) := by
  refine (ownC2 b hl).frz ?_
  rintro r L' ⟨rfl, rfl⟩
  exact ⟨_, bkOb b, rfl, clR_rows b, by simp [bk, bkOb], rfl⟩
theorem copyP (b : List BS) (hl : b.length < 1000000) : ACall Go.Proofs.Tryd.prog 61 [bk b] [] (fun r L' => r = bk b ∧ L' = []) := by
  refine (copyC b hl).frz ?_
  rintro r L' ⟨rfl, rfl⟩
  exact ⟨_, bkOb b, rfl, clR_rows b, by simp [bk, bkOb], rfl⟩

theorem booksB_acc {t : TR} (h : okT t) : booksB t = accT t (t.since.length + 1) := by
  unfold booksB accT; rw [if_pos (id h : bookOkB t.base = true ∧ t.since.length ≤ 8 ∧ 0 ≤ t.sure ∧ t.sure ≤ t.since.length)]
theorem accT_len (t : TR) (k : Nat) : (accT t k).length ≤ k := by unfold accT; simp

theorem itrailN (t : TR) (hg : TrG t) (hn : ¬ okT t) : ACall Go.Proofs.Tryd.prog 27 [.agg t.row] [] (fun r L' => r = .nils ∧ L' = []) := by
  obtain ⟨hb, hbl, hs, hsl⟩ := hg
  apply vc27 (by simp) (by simp)
  simp [ac27, TR.row]
  refine callA_val en21 (implOkC t.base hb (by omega)) (by simp [bk]) (by simp) ?_
  cases hok : bookOkB t.base with
  | false => simp
  | true =>
    by_cases h8 : t.since.length ≤ 8
    · have h8' : ¬ (8 : Int) < t.since.length := by omega
      simp [h8, h8']
      refine callA_val en76 (withinC t.sure 0 t.since.length) (by simp) (by simp) ?_
      have : (decide (0 ≤ t.sure) && decide (t.sure ≤ (t.since.length : Int))) = false := by
        rw [Bool.and_eq_false_iff]
        by_cases h0 : 0 ≤ t.sure
        · right; simp; exact Int.not_le.1 fun h => hn ⟨hok, h8, h0, h⟩
        · left; simpa using h0
      rw [this]
      simp
    · have h8' : (8 : Int) < t.since.length := by omega
      simp [h8, h8']

theorem itrailY (t : TR) (hg : TrG t) (hy : okT t) : ACall Go.Proofs.Tryd.prog 27 [.agg t.row] [] (fun r L' => ∃ id, r = .sl id 0 (booksB t).length ∧ L' = [(id, bksOb (booksB t))]) := by
  have hg0 := hg
  obtain ⟨hb, hbl, hs, hsl⟩ := hg
  obtain ⟨hok, h8, h0, hle⟩ := id hy
  have h8' : ¬ (8 : Int) < t.since.length := by omega
  rw [booksB_acc hy]
  apply vc27 (by simp) (by simp)
  simp [ac27, TR.row]
  refine callA_val en21 (implOkC t.base hb (by omega)) (by simp [bk]) (by simp) ?_
  simp [hok, h8, h8']
  refine callA_val en76 (withinC t.sure 0 t.since.length) (by simp) (by simp) ?_
  simp [h0, hle]
  refine ev_loopW (X := Nat) (itSt t) (fun k => t.since.length - k) (fun k => k ≤ t.since.length) 0 ⟨by simp, ?_⟩ ?_
  · exact (sw_ph 4 1 (by simp) (by simp)).trans (sw_can [1, 3, 4, 5] [(1, 1), (3, 3), (4, 4)] (by simp [canonOk]) (by simp [canon, obOf, itSt, accT, bksOb, TR.row, nth_zero, bkRow]))
  intro k hk
  obtain ⟨g1, g2⟩ := nth_good hg0 k
  have hal := accT_len t k
  have hst := accT_step t k
  have e2 : IntKind.i64.wrap ((k : Int) + 1) = ((k + 1 : Nat) : Int) := by rw [i64_in' _ (by omega)]; omega
  have nx : ∀ (o : BO), t.since[k]? = some o → OpG o := fun o ho => hs o (List.mem_of_getElem? ho)
  by_cases hks : t.sure ≤ k
  · rw [if_pos (by omega)] at hst
    by_cases hke : k = t.since.length
    · simp [ac27_l0, itSt, TR.row, hks, bkRow]
      refine callA_val en58 (ownP (nthB t k) (by omega)) (by simp [bk]) (by simp [bk]) ?_
      have hst' := hst
      rw [hke] at hst'
      simp [bk, hke, hst']
      have hal' := accT_len t t.since.length
      exact ⟨by omega, by simp [bksOb, bkRow]⟩
    · obtain ⟨o, e0⟩ : ∃ o, t.since[k]'(by omega) = o := ⟨_, rfl⟩
      have e1 : t.since[k]? = some o := by rw [← e0]; exact List.getElem?_eq_getElem (by omega)
      have hlt : k < t.since.length := by omega
      have hke' : ¬ (k : Int) = t.since.length := by omega
      have hnx := nth_step t e1
      simp [ac27_l0, itSt, TR.row, hks, bkRow]
      refine callA_val en58 (ownP (nthB t k) (by omega)) (by simp [bk]) (by simp [bk]) ?_
      simp [bk, hke', e0, e1, hlt]
      refine ⟨by omega, ?_⟩
      refine callA_val en16 (implDoC (nthB t k) o g1 (by omega) (nx o e1)) (by simp [bk, BO.row]) (by simp [bk]) ?_
      simp [bk, e2]
      exact nextW_of (k + 1) (by omega) (by omega) (sw_can [1, 3, 4, 5] [(1, 1), (3, 3), (37, 4)] (by simp [canonOk]) (by simp [canon, obOf, itSt, bksOb, TR.row, hnx, hst, bkRow]))
  · rw [if_neg (by omega), List.append_nil] at hst
    have hlt : k < t.since.length := by omega
    obtain ⟨o, e0⟩ : ∃ o, t.since[k] = o := ⟨_, rfl⟩
    have e1 : t.since[k]? = some o := by rw [← e0]; exact List.getElem?_eq_getElem (by omega)
    have hke' : ¬ (k : Int) = t.since.length := by omega
    have hnx := nth_step t e1
    simp [ac27_l0, itSt, TR.row, hks, bkRow, hke', e0, e1, hlt]
    refine callA_val en16 (implDoC (nthB t k) o g1 (by omega) (nx o e1)) (by simp [bk, BO.row]) (by simp [bk]) ?_
    simp [bk, e2]
    exact nextW_of (k + 1) (by omega) (by omega) (sw_can [1, 3, 4, 5] [(1, 1), (3, 3), (4, 4)] (by simp [canonOk]) (by simp [canon, obOf, itSt, bksOb, TR.row, hnx, hst, bkRow]))

def bksP (l : List (List BS)) (r : AV) (L' : List (Nat × Ob)) : Prop := r = .lst 1 (l.map bkRow) ∧ L' = []
theorem clR_bks (l : List (List BS)) : clR (l.map bkRow) = true := by
  unfold clR
  rw [List.all_map, List.all_eq_true]
  intro b _
  simp [bkRow, clL, clA]

theorem itrailC (t : TR) (hg : TrG t) : ACall Go.Proofs.Tryd.prog 27 [.agg t.row] [] (bksP (booksB t)) := by
  by_cases hy : okT t
  · refine (itrailY t hg hy).frz ?_
    rintro r L' ⟨id, rfl, rfl⟩
    exact ⟨id, bksOb (booksB t), rfl, clR_bks _, by simp, rfl⟩
  · refine (itrailN t hg hy).imp ?_
    rintro r L' ⟨rfl, rfl⟩
    refine ⟨_, impA_nils 1, ?_, rfl⟩
    unfold booksB; rw [if_neg (id hy : ¬ (bookOkB t.base = true ∧ t.since.length ≤ 8 ∧ 0 ≤ t.sure ∧ t.sure ≤ t.since.length))]; rfl

def stSt (t : TR) (k : Nat) : S :=
  ⟨mkT [(1, .ptr 1 0 0), (3, .ptr 3 0 0), (4, .sl 4 0 (accT t k).length), (5, .int .i64 k)], hpOf [(1, ⟨3, [t.row]⟩), (3, ⟨1, [bkRow (nthB t (k - 1))]⟩), (4, bksOb (accT t k))], Us.of [1, 3, 4]⟩

theorem sbooksC (t : TR) (hg : TrG t) (hy : okT t) : ACall Go.Proofs.Tryd.prog 77 [.agg t.row] [] (bksP (booksB t)) := by
  have hg0 := hg
  obtain ⟨hb, hbl, hs, hsl⟩ := hg
  obtain ⟨hok, h8, h0, hle⟩ := id hy
  rw [booksB_acc hy]
  have key : ACall Go.Proofs.Tryd.prog 77 [.agg t.row] [] (fun r L' => r = .sl 4 0 (accT t (t.since.length + 1)).length ∧ L' = [(4, bksOb (accT t (t.since.length + 1)))]) := by
    apply vc77 (by simp) (by simp)
    simp [ac77, TR.row]
    refine callA_val en61 (copyP t.base (by omega)) (by simp [bk]) (by simp [bk]) ?_
    simp [bk]
    refine ev_loopW (X := Nat) (stSt t) (fun k => t.since.length + 1 - k) (fun k => k ≤ t.since.length + 1) 0 ⟨by simp, ?_⟩ ?_
    · exact sw_can [1, 3, 4, 5] [(1, 1), (3, 3), (9, 4)] (by simp [canonOk]) (by simp [canon, obOf, stSt, accT, bksOb, TR.row, nth_zero, bkRow])
    intro k hk
    have hal := accT_len t k
    have hst := accT_step t k
    have e2 : IntKind.i64.wrap ((k : Int) + 1) = ((k + 1 : Nat) : Int) := by rw [i64_in' _ (by omega)]; omega
    have nx : ∀ (k : Nat) (o : BO), t.since[k]? = some o → OpG o := fun k o ho => hs o (List.mem_of_getElem? ho)
    by_cases hkl : k ≤ t.since.length
    rotate_left
    · have : k = t.since.length + 1 := by omega
      subst this
      have hn : ¬ ((t.since.length : Int) + 1 ≤ t.since.length) := by omega
      simp [ac77_l0, stSt, TR.row, hn]
    have hkl' : (k : Int) ≤ t.since.length := by omega
    obtain ⟨g1, g2⟩ := nth_good hg0 k
    obtain ⟨p1, p2⟩ := nth_good hg0 (k - 1)
    have e5 : IntKind.i64.wrap 1 = 1 := by decide
    cases k with
    | zero =>
      by_cases hks : t.sure ≤ 0
      · rw [if_pos (by omega)] at hst
        simp [ac77_l0, stSt, TR.row, hks, bkRow]
        refine callA_val en61 (copyP (nthB t 0) (by omega)) (by simp [bk]) (by simp [bk]) ?_
        simp [bk, e2]
        refine ⟨by omega, ?_⟩
        exact nextW_of 1 (by omega) (by omega) (sw_can [1, 3, 4, 5] [(1, 1), (3, 3), (38, 4)] (by simp [canonOk]) (by simp [canon, obOf, stSt, bksOb, TR.row, hst, bkRow, e5]))
      · rw [if_neg (by omega), List.append_nil] at hst
        simp [ac77_l0, stSt, TR.row, hks, bkRow, e2]
        exact nextW_of 1 (by omega) (by omega) (sw_can [1, 3, 4, 5] [(1, 1), (3, 3), (4, 4)] (by simp [canonOk]) (by simp [canon, obOf, stSt, bksOb, TR.row, hst, bkRow, e5]))
    | succ k =>
      have hlt : k < t.since.length := by omega
      obtain ⟨o, e0⟩ : ∃ o, t.since[k] = o := ⟨_, rfl⟩
      have e1 : t.since[k]? = some o := by rw [← e0]; exact List.getElem?_eq_getElem (by omega)
      have hnx := nth_step t e1
      have e3 : IntKind.i64.wrap ((k : Int) + 1 - 1) = (k : Int) := by rw [i64_in' _ (by omega)]; omega
      have e4 : IntKind.i64.wrap (k : Int) = (k : Int) := i64_in' _ (by omega)
      have hpos : (0 : Int) < (k : Int) + 1 := by omega
      have e6 : IntKind.i64.wrap ((k : Int) + 1 + 1) = (k : Int) + 1 + 1 := i64_in' _ (by omega)
      have hkl2 : (k : Int) + 1 ≤ t.since.length := by omega
      simp only [Nat.add_sub_cancel] at p1 p2
      by_cases hks : t.sure ≤ (k : Int) + 1
      · rw [if_pos (by omega)] at hst
        simp [ac77_l0, stSt, TR.row, bkRow, hpos, hkl2, e3, e4, e0, e1, hlt, hks]
        refine callA_val en17 (specDoC (nthB t k) o p1 (by omega) (nx k o e1)) (by simp [bk, BO.row]) (by simp [bk]) ?_
        simp [bk, ← hnx, hks]
        refine callA_val en61 (copyP (nthB t (k + 1)) (by omega)) (by simp [bk]) (by simp [bk]) ?_
        simp [bk, e2]
        refine ⟨by omega, ?_⟩
        exact nextW_of (k + 1 + 1) (by omega) (by omega) (sw_can [1, 3, 4, 5] [(1, 1), (3, 3), (38, 4)] (by simp [canonOk]) (by simp [canon, obOf, stSt, bksOb, TR.row, hst, bkRow, e6]))
      · rw [if_neg (by omega), List.append_nil] at hst
        simp [ac77_l0, stSt, TR.row, bkRow, hpos, hkl2, e3, e4, e0, e1, hlt, hks]
        refine callA_val en17 (specDoC (nthB t k) o p1 (by omega) (nx k o e1)) (by simp [bk, BO.row]) (by simp [bk]) ?_
        simp [bk, ← hnx, hks, e2]
        exact nextW_of (k + 1 + 1) (by omega) (by omega) (sw_can [1, 3, 4, 5] [(1, 1), (3, 3), (4, 4)] (by simp [canonOk]) (by simp [canon, obOf, stSt, bksOb, TR.row, hst, bkRow, e6]))
  refine key.frz ?_
  rintro r L' ⟨rfl, rfl⟩
  exact ⟨_, bksOb _, rfl, clR_bks _, by simp, rfl⟩

theorem strailC (t : TR) (hg : TrG t) : ACall Go.Proofs.Tryd.prog 28 [.agg t.row] [] (bksP (booksB t)) := by
  have hg0 := hg
  obtain ⟨hb, hbl, hs, hsl⟩ := hg
  by_cases hy : okT t
  · obtain ⟨hok, h8, h0, hle⟩ := id hy
    have h8' : ¬ (8 : Int) < t.since.length := by omega
    have h0' : ¬ t.sure < 0 := by omega
    have hle' : ¬ (t.since.length : Int) < t.sure := by omega
    apply vc28 (by simp) (by simp)
    simp [ac28, TR.row]
    refine callA_val en18 (specOkC t.base hb (by omega)) (by simp [bk]) (by simp) ?_
    simp [hok, h8, h8', h0, h0', hle, hle']
    refine callA_val en77 (sbooksC t hg0 hy) (by simp [TR.row]) (by simp) ?_
    simp [bksP]
  · have hnil : booksB t = [] := by
      unfold booksB; rw [if_neg (id hy : ¬ (bookOkB t.base = true ∧ t.since.length ≤ 8 ∧ 0 ≤ t.sure ∧ t.sure ≤ t.since.length))]
    rw [hnil]
    have key : ACall Go.Proofs.Tryd.prog 28 [.agg t.row] [] (fun r L' => ∃ id, r = .sl id 0 0 ∧ L' = [(id, bksOb [])]) := by
      apply vc28 (by simp) (by simp)
      simp [ac28, TR.row]
      refine callA_val en18 (specOkC t.base hb (by omega)) (by simp [bk]) (by simp) ?_
      cases hok : bookOkB t.base with
      | false => simp [bksOb]
      | true =>
        by_cases h8 : t.since.length ≤ 8
        · have h8' : ¬ (8 : Int) < t.since.length := by omega
          by_cases h0 : 0 ≤ t.sure
          · have h0' : ¬ t.sure < 0 := by omega
            have hle : (t.since.length : Int) < t.sure := Int.not_le.1 fun h => hy ⟨hok, h8, h0, h⟩
            simp [h8, h8', h0, h0', hle, bksOb]
          · have h0' : t.sure < 0 := by omega
            simp [h8, h8', h0, h0', bksOb]
        · have h8' : (8 : Int) < t.since.length := by omega
          simp [h8, h8', bksOb]
    refine key.frz ?_
    rintro r L' ⟨id, rfl, rfl⟩
    exact ⟨id, bksOb [], rfl, rfl, by simp [bksOb], rfl⟩
end Go.Av.F
end

section
/- Functions of the program in the short form; printed by acgen.py. -/
namespace Go.Av.F
open Go Go.Av
set_option maxRecDepth 100000
set_option linter.constructorNameAsVariable false
theorem vv75 {args : List AV} {L : List (Nat × Ob)} {R : AV → List (Nat × Ob) → Prop} (ha : args.length ≤ 58) (hL : (L.map (·.1)).Nodup)
    (h : VA Go.Proofs.Tryd.prog ⟨58, L.map (·.1)⟩ ac75 ⟨argT args, hpOf L, Us.of (L.map (·.1))⟩ (retQ Go.Proofs.Tryd.prog [(ResultVar.cell 2 47)] R)) : ACall Go.Proofs.Tryd.prog 75 args L R :=
  acallA (by kernel_rfl) 58 [(14, [⟨0, [], [], [], [1, 7, 8, 9]⟩, ⟨1, [3], [], [], [7, 8, 9]⟩, ⟨2, [], [3], [], [3, 6, 7, 8, 9]⟩, ⟨3, [3], [3], [], [6, 7, 8, 9]⟩, ⟨4, [], [3], [], [5, 6, 7, 8, 9]⟩, ⟨5, [3], [3], [], [6, 7, 8, 9]⟩, ⟨6, [], [3], [], [7, 8, 9]⟩, ⟨7, [], [], [], [8, 9]⟩, ⟨8, [], [], [], [9]⟩, ⟨9, [], [], [], []⟩])] [(ResultVar.cell 2 47)] Go.Proofs.Tryd.func75 (by kernel_rfl) Go.Proofs.Tryd.ntmps75 (by kernel_rfl) ha hL h
end Go.Av.F
end

section
namespace Go.Av.F
open Go Go.Av
set_option linter.unusedSimpArgs false
set_option linter.unusedVariables false
set_option maxRecDepth 100000
attribute [local simp] tt3 tt4 tt9 tt5 tt22 tt25 tt23 tt35 tt33 tt27 tt42 tt54 tt45 tt47 tt49 op_len op_take

def opsOb (l : List BO) : Ob := ⟨5, l.map BO.row⟩
theorem ops_sz (l : List BO) : (opsOb l).sz = 5 := rfl
theorem ops_els (l : List BO) : (opsOb l).els = l.map BO.row := rfl
theorem renL_opc (ρ : Nat → Option Plc) : (renL ρ ∘ BO.row) = BO.row := by funext x; simp [BO.row]
theorem take_ops (l : List BO) : List.take l.length (l.map BO.row) = l.map BO.row := List.take_of_length_le (by simp)
attribute [local simp] ops_sz ops_els renL_opc take_ops

def zTr : Ob := ⟨3, [[.nils, .nils, .int .i64 0]]⟩
/-- Behind the book. -/
def tA (bs : List UInt8) (x : Int × List BS) : S :=
  ⟨mkT [(0, .ptr 1000 0 0), (2, .ptr 2 0 0), (3, .ptr 3 0 0), (4, .ptr 4 0 0)], hpOf [(1000, rdOb bs x.1), (2, zTr), (3, ⟨3, [[.lst 11 (x.2.map BS.row), .nils, .int .i64 0]]⟩), (4, ⟨1, [bkRow x.2]⟩)], Us.of [1000, 1000, 2, 3, 4]⟩
/-- A state with the calls. -/
def tN (bs : List UInt8) (b : List BS) (sure : Int) (q : Int) (i : Int) : S :=
  ⟨mkT [(0, .ptr 1000 0 0), (2, .ptr 2 0 0), (3, .ptr 3 0 0), (4, .ptr 4 0 0), (5, .int .i64 i)], hpOf [(1000, rdOb bs q), (2, zTr), (3, ⟨3, [[.lst 11 (b.map BS.row), .nils, .int .i64 sure]]⟩), (4, ⟨1, [bkRow b]⟩)], Us.of [1000, 1000, 2, 3, 4]⟩
def tC (bs : List UInt8) (b : List BS) (sure : Int) (ops : List BO) (q : Int) (i : Int) : S :=
  ⟨mkT [(0, .ptr 1000 0 0), (2, .ptr 2 0 0), (3, .ptr 3 0 0), (4, .ptr 4 0 0), (5, .int .i64 i)], hpOf [(1000, rdOb bs q), (2, zTr), (3, ⟨3, [[.lst 11 (b.map BS.row), .sl 901 0 ops.length, .int .i64 sure]]⟩), (4, ⟨1, [bkRow b]⟩), (901, opsOb ops)], Us.of [1000, 1000, 2, 3, 4, 901]⟩
def tS (bs : List UInt8) (b : List BS) (sure : Int) (x : Int × Int × List BO) : S := if x.2.2 = [] then tN bs b sure x.2.1 x.1 else tC bs b sure x.2.2 x.2.1 x.1
/-- At the end. -/
def tF (bs : List UInt8) (x : Int × TR) : S :=
  ⟨mkT [(2, .ptr 2 0 0), (3, .ptr 3 0 0)], hpOf [(1000, rdOb bs x.1), (2, zTr), (3, ⟨3, [x.2.row]⟩)], Us.of [1000, 1000, 2, 3]⟩

def trailR (bs : List UInt8) (p : Int) (r : AV) (L' : List (Nat × Ob)) : Prop := ∃ (t : TR) (q : Int), TrG t ∧ t.base.length ≤ 14 ∧ t.since.length ≤ 24 ∧ p ≤ q ∧ q ≤ p + 1000 ∧ r = .agg t.row ∧ L' = [(1000, rdOb bs q)]

noncomputable def ac75_rest : ACode := match ac75 with
  | .seq _ (.seq _ (.seq _ r)) => r
  | _ => .skip

def OpsG (l : List BO) : Prop := ∀ o ∈ l, OpG o
theorem ts_nil (bs : List UInt8) (b : List BS) (sure q i : Int) : tS bs b sure (i, q, []) = tN bs b sure q i := if_pos rfl
theorem ts_cons (bs : List UInt8) (b : List BS) (sure q i : Int) {ops : List BO} (h : ops ≠ []) : tS bs b sure (i, q, ops) = tC bs b sure ops q i := if_neg h

theorem loop75 {Q : Exit → S → Prop} (bs : List UInt8) (b : List BS) (p i0 q0 : Int) (hi0 : 0 ≤ i0 ∧ i0 ≤ 8) (hp : 0 ≤ p ∧ p < 700000000) (hq0 : p ≤ q0 ∧ q0 ≤ p + 301) (hb : bs.length ≤ 2000) (hg : BkG b) (hbl : b.length ≤ 14) {st : S} (h0 : SW ⟨58, [1000]⟩ st (tS bs b 0 (i0, q0, [])))
    (hex : ∀ (st : S) (q : Int) (ops : List BO), p ≤ q → q ≤ p + 501 → OpsG ops → ops.length ≤ 8 → SW ⟨58, [1000]⟩ st (tS bs b 0 (0, q, ops)) → Q (.exit 0) st) :
    ev Go.Proofs.Tryd.prog ⟨58, [1000]⟩ (.loop ac75_l0) Q st := by
  refine ev_loopW (X := Int × Int × List BO) (tS bs b 0) (fun x => x.1.toNat) (fun x => 0 ≤ x.1 ∧ x.1 ≤ 8 ∧ p ≤ x.2.1 ∧ x.2.1 ≤ p + 301 + 20 * (8 - x.1) ∧ OpsG x.2.2 ∧ x.2.2.length + x.1 ≤ 8) (i0, q0, []) ⟨⟨hi0.1, hi0.2, hq0.1, by simp only; omega, by simp [OpsG], by simp only [List.length_nil]; omega⟩, h0⟩ ?_
  rintro ⟨i, q, ops⟩ ⟨h1, h2, h3, h4, h5, h6⟩
  simp only at h1 h2 h3 h4 h5 h6
  have e2 : IntKind.i64.wrap (i - 1) = i - 1 := i64_in' _ (by omega)
  by_cases hn : ops = []
  · subst hn
    rw [ts_nil]
    by_cases hi : 0 < i
    · simp [ac75_l0, tN, hi, bkRow]
      refine callA_wh [(1000, .whole 1000)] en57 (opC bs q b (by omega) hb (by omega) hg) (by simp [bk]) (by simp) (by simp) (by simp) (by simp) ?_
      rintro r L' ⟨o, q', ho, g1, g2, rfl, rfl⟩
      refine ⟨[], ⟨by simp, by simp, by simp, by simp, by simp⟩, ?_⟩
      simp [BO.row, e2]
      refine nextW_of (i - 1, q', [{ o with kind := 3 }]) (by simp only; omega) ⟨by simp only; omega, by simp only; omega, by simp only; omega, by simp only; omega, fun x hx => by obtain rfl := List.mem_singleton.1 hx; exact ho, by simp only [List.length_singleton]; omega⟩ ?_
      rw [ts_cons bs b 0 q' (i - 1) (by simp)]
      exact sw_can [0, 2, 3, 4, 5] [(1000, 1000), (2, 2), (3, 3), (4, 4), (29, 901)] (by simp [canonOk]) (by simp [canon, obOf, tC, zTr, opsOb, BO.row, bkRow, rdOb])
    · have : i = 0 := by omega
      subst this
      simp [ac75_l0, tN]
      refine hex _ q [] h3 (by omega) h5 (by simp) ?_
      rw [ts_nil]
      exact sw_can [0, 2, 3, 4, 5] [(1000, 1000), (2, 2), (3, 3), (4, 4)] (by simp [canonOk]) (by simp [canon, obOf, tN, zTr, bkRow, rdOb])
  · rw [ts_cons bs b 0 q i hn]
    by_cases hi : 0 < i
    · simp [ac75_l0, tC, hi, bkRow]
      refine callA_wh [(1000, .whole 1000)] en57 (opC bs q b (by omega) hb (by omega) hg) (by simp [bk]) (by simp) (by simp) (by simp) (by simp) ?_
      rintro r L' ⟨o, q', ho, g1, g2, rfl, rfl⟩
      refine ⟨[], ⟨by simp, by simp, by simp, by simp, by simp⟩, ?_⟩
      simp [BO.row, e2]
      refine ⟨by omega, ?_⟩
      refine nextW_of (i - 1, q', ops ++ [{ o with kind := 3 }]) (by simp only; omega) ⟨by simp only; omega, by simp only; omega, by simp only; omega, by simp only; omega, fun x hx => ?_, by simp only [List.length_append, List.length_singleton]; omega⟩ ?_
      · rcases List.mem_append.1 hx with hx | hx
        · exact h5 x hx
        · obtain rfl := List.mem_singleton.1 hx; exact ho
      rw [ts_cons bs b 0 q' (i - 1) (by simp)]
      exact sw_can [0, 2, 3, 4, 5] [(1000, 1000), (2, 2), (3, 3), (4, 4), (29, 901)] (by simp [canonOk]) (by simp [canon, obOf, tC, zTr, opsOb, BO.row, bkRow, rdOb])
    · have : i = 0 := by omega
      subst this
      simp [ac75_l0, tC]
      refine hex _ q ops h3 (by omega) h5 (by omega) ?_
      rw [ts_cons bs b 0 q 0 hn]
      exact sw_can [0, 2, 3, 4, 5] [(1000, 1000), (2, 2), (3, 3), (4, 4), (901, 901)] (by simp [canonOk]) (by simp [canon, obOf, tC, zTr, opsOb, BO.row, bkRow, rdOb])

theorem opsG_app {l1 l2 : List BO} (h1 : OpsG l1) (h2 : OpsG l2) : OpsG (l1 ++ l2) := fun x hx => by
  rcases List.mem_append.1 hx with hx | hx
  · exact h1 x hx
  · exact h2 x hx

def trGd (p : Int) (x : Int × TR) : Prop := TrG x.2 ∧ x.2.base.length ≤ 14 ∧ x.2.since.length ≤ 24 ∧ p ≤ x.1 ∧ x.1 ≤ p + 1000
noncomputable def ac75_last : ACode := match ac75 with
  | .seq _ (.seq _ (.seq _ (.seq _ (.seq _ (.seq _ r))))) => r
  | _ => .skip
theorem fin75 (bs : List UInt8) (p : Int) : ∀ x, trGd p x → VA Go.Proofs.Tryd.prog ⟨58, [1000]⟩ ac75_last (tF bs x) (retQ Go.Proofs.Tryd.prog [ResultVar.cell 2 47] (trailR bs p)) := by
  rintro ⟨q, t⟩ ⟨h1, h2, h3, h4, h5⟩
  simp only [ac75_last, ac75]
  refine va_of_ev _ ?_
  simp [tF, TR.row, zTr]
  exact ⟨[(1000, rdOb bs q)], by simp, t, q, h1, h2, h3, h4, h5, rfl, rfl⟩
noncomputable def ac75_sw : ACode := match ac75 with
  | .seq _ (.seq _ (.seq _ (.seq _ (.seq _ r)))) => r
  | _ => .skip
def tD (bs : List UInt8) (b : List BS) (s : Int) (E : List (List AV)) (n cap : Nat) (q : Int) : S :=
  ⟨mkT [(0, .ptr 1000 0 0), (2, .ptr 2 0 0), (3, .ptr 3 0 0), (4, .ptr 4 0 0)], hpOf [(1000, rdOb bs q), (2, zTr), (3, ⟨3, [[.lst 11 (b.map BS.row), .slc 901 0 n cap, .int .i64 s]]⟩), (4, ⟨1, [bkRow b]⟩), (901, ⟨5, E⟩)], Us.of [1000, 1000, 2, 3, 4, 901]⟩

theorem clR_ops (l : List BO) : clR (l.map BO.row) = true := by
  unfold clR
  rw [List.all_map, List.all_eq_true]
  intro b _
  simp [BO.row, clL, clA]
theorem oneA_ops (l : List BO) : ∀ x ∈ l.map BO.row, ∀ y ∈ x, oneA y = true := fun x hx y hy => by
  obtain ⟨o, _, rfl⟩ := List.mem_map.1 hx
  simp only [BO.row, List.mem_cons, List.not_mem_nil, or_false] at hy
  rcases hy with rfl | rfl | rfl | rfl | rfl <;> rfl
theorem map_cl {E : List (List AV)} (ρ : Nat → Option Plc) (h : clR E = true) : E.map (renL ρ) = E := renR_cl ρ h

theorem clR_app {a b : List (List AV)} (h1 : clR a = true) (h2 : clR b = true) : clR (a ++ b) = true := by
  simp only [clR, List.all_append, Bool.and_eq_true] at *; exact ⟨h1, h2⟩
theorem clR_take {a : List (List AV)} (n : Nat) (h : clR a = true) : clR (a.take n) = true := by
  simp only [clR, List.all_eq_true] at *; exact fun x hx => h x (List.mem_of_mem_take hx)
theorem clR_drop {a : List (List AV)} (n : Nat) (h : clR a = true) : clR (a.drop n) = true := by
  simp only [clR, List.all_eq_true] at *; exact fun x hx => h x (List.mem_of_mem_drop hx)
theorem clR_spl {E ys : List (List AV)} (k : Nat) (h1 : clR E = true) (h2 : clR ys = true) : clR (spl E k ys) = true := clR_app (clR_take _ h1) (clR_app h2 (clR_drop _ h1))
theorem mid75 (bs : List UInt8) (p : Int) (hp : 0 ≤ p ∧ p < 700000000) (hb : bs.length ≤ 2000) (q : Int) (b : List BS) (ops : List BO) (cap : Nat) (E : List (List AV)) (s : Int) (h1 : p ≤ q) (h2 : q ≤ p + 510) (hg : BkG b) (hbl : b.length ≤ 14)
    (ho : OpsG ops) (hl : ops.length ≤ 8) (hc : ops.length ≤ cap) (hEl : E.length = cap) (hT : E.take ops.length = ops.map BO.row) (hcl : clR E = true) :
    VA Go.Proofs.Tryd.prog ⟨58, [1000]⟩ ac75_sw (tD bs b s E ops.length cap q) (retQ Go.Proofs.Tryd.prog [ResultVar.cell 2 47] (trailR bs p)) := by
  have hTr : ∀ (ops' : List BO) (s' : Int), OpsG ops' → ops'.length ≤ 24 → ∀ q', p ≤ q' → q' ≤ p + 1000 → trGd p (q', ⟨b, ops', s'⟩) := fun ops' s' g1 g2 q' g3 g4 => ⟨⟨hg, by simp only; omega, g1, by simp only; omega⟩, hbl, g2, g3, g4⟩
  have hsm : (ops.length + ops.length) * 64 ≤ 1099511627776 := by omega
  have hsm2 : (ops.length + (ops.length + ops.length)) * 64 ≤ 1099511627776 := by omega
  have hcl' : List.all E clL = true := hcl
  simp only [ac75_sw, ac75]
  refine va_cutW (X := Int × TR) (tF bs) (trGd p) ?_ (fin75 bs p)
  simp [tD]
  refine callPick (p := q) (by omega) hb (by simp) fun k hk _ => ?_
  by_cases hk0 : k = 0
  · simp [hk0]
    refine callNum (p := q + 1) [-1, 9] (by omega) hb (by simp) (by omega) (by simp [i64Ob, i64Row]) (by simp) (by simp) (by simp) fun n hn => ?_
    simp
    exact cutW_of (q + 1 + 1, ⟨b, ops, n⟩) (hTr ops n ho (by omega) _ (by omega) (by omega)) (sw_fr 901 (o := ⟨5, E⟩) (by simp) hcl' (by simp) (by simp) [2, 3] [(1000, 1000), (2, 2), (3, 3)] (by simp [canonOk]) (by simp [canon, obOf, tF, zTr, rdOb, TR.row, hEl, hc, hT]))
  · by_cases hk1 : k = 1
    · have hlen : (ops.map BO.row).length = ops.length := by simp
      have hmin : min ops.length cap = ops.length := by omega
      have hD3 : List.take (ops.length + (ops.length + ops.length)) (ops.map BO.row ++ (ops.map BO.row ++ ops.map BO.row)) = ops.map BO.row ++ (ops.map BO.row ++ ops.map BO.row) := List.take_of_length_le (by simp)
      have hone : ∀ (x : BO), x ∈ ops → ∀ (y : AV), y ∈ x.row → oneA y = true := fun x hx => oneA_ops ops _ (List.mem_map_of_mem hx)
      have hcr := clR_ops ops
      have hcr2 := clR_app hcr hcr
      have hops3 : OpsG (ops ++ (ops ++ ops)) := opsG_app ho (opsG_app ho ho)
      have hl3 : (ops ++ (ops ++ ops)).length ≤ 24 := by simp only [List.length_append]; omega
      have fin : ∀ st : S, SW ⟨58, [1000]⟩ st (tF bs (q + 1, ⟨b, ops ++ (ops ++ ops), s⟩)) → cutW (X := Int × TR) ⟨58, [1000]⟩ (tF bs) (trGd p) st := fun st h => cutW_of (q + 1, ⟨b, ops ++ (ops ++ ops), s⟩) (hTr _ s hops3 hl3 _ (by omega) (by omega)) h
      by_cases c1 : ops.length + ops.length ≤ cap
      · have hS := spl_take E ops.length (ops.map BO.row) (by omega)
        rw [hlen, hT] at hS
        have hSl := spl_length E ops.length (ops.map BO.row) (by omega)
        rw [hlen, hEl] at hSl
        have hSl' : (spl E ops.length (ops.map BO.row)).length = cap := by omega
        have hmin2 : min (ops.length + ops.length) cap = ops.length + ops.length := by omega
        have hS0 := (spl_at E ops.length (ops.map BO.row) (by omega)).1
        rw [hT] at hS0
        have hclS := clR_spl ops.length hcl hcr
        by_cases c2 : ops.length + (ops.length + ops.length) ≤ cap
        · have hA := spl_take (spl E ops.length (ops.map BO.row)) ops.length (ops.map BO.row ++ ops.map BO.row) (by omega)
          rw [hS0, List.length_append, hlen] at hA
          have hAl := spl_length (spl E ops.length (ops.map BO.row)) ops.length (ops.map BO.row ++ ops.map BO.row) (by omega)
          rw [List.length_append, hlen, hSl'] at hAl
          have hAl' : ops.length + (ops.length + ops.length) ≤ (spl (spl E ops.length (ops.map BO.row)) ops.length (ops.map BO.row ++ ops.map BO.row)).length := by omega
          have hclA : clR (spl (spl E ops.length (ops.map BO.row)) ops.length (ops.map BO.row ++ ops.map BO.row)) = true := clR_spl _ hclS hcr2
          simp [hk0, hk1, hEl, hc, hT, hmin, c1, c2, hsm, hS, hSl', hmin2]
          exact ⟨hone, fin _ (sw_fr 901 (o := ⟨5, spl (spl E ops.length (ops.map BO.row)) ops.length (ops.map BO.row ++ ops.map BO.row)⟩) (by simp) hclA (by simp) (by simp) [2, 3] [(1000, 1000), (2, 2), (3, 3)] (by simp [canonOk]) (by simp [canon, obOf, tF, zTr, rdOb, TR.row, hA, hAl']))⟩
        · have hcl3 : clR (ops.map BO.row ++ (ops.map BO.row ++ ops.map BO.row)) = true := clR_app hcr hcr2
          simp [hk0, hk1, hEl, hc, hT, hmin, c1, c2, hsm, hS, hSl', hmin2, hsm2, hS0]
          exact ⟨hone, fin _ (sw_fr 55 (o := ⟨5, ops.map BO.row ++ (ops.map BO.row ++ ops.map BO.row)⟩) (by simp) hcl3 (by simp) (by simp) [2, 3] [(1000, 1000), (2, 2), (3, 3)] (by simp [canonOk]) (by simp [canon, obOf, tF, zTr, rdOb, TR.row, hD3]))⟩
      · have c2 : ¬ ops.length + (ops.length + ops.length) ≤ cap := by omega
        have hcl3 : clR (ops.map BO.row ++ (ops.map BO.row ++ ops.map BO.row)) = true := clR_app hcr hcr2
        have hD : List.take (ops.length + ops.length) (ops.map BO.row ++ ops.map BO.row) = ops.map BO.row ++ ops.map BO.row := List.take_of_length_le (by simp)
        simp [hk0, hk1, hEl, hc, hT, hmin, c1, c2, hsm, hsm2, hD]
        exact fin _ (sw_fr 55 (o := ⟨5, ops.map BO.row ++ (ops.map BO.row ++ ops.map BO.row)⟩) (by simp) hcl3 (by simp) (by simp) [2, 3] [(1000, 1000), (2, 2), (3, 3)] (by simp [canonOk]) (by simp [canon, obOf, tF, zTr, rdOb, TR.row, hD3]))
    · simp [hk0, hk1]
      exact cutW_of (q + 1, ⟨b, ops, s⟩) (hTr ops s ho (by omega) _ (by omega) (by omega)) (sw_fr 901 (o := ⟨5, E⟩) (by simp) hcl' (by simp) (by simp) [2, 3] [(1000, 1000), (2, 2), (3, 3)] (by simp [canonOk]) (by simp [canon, obOf, tF, zTr, rdOb, TR.row, hEl, hc, hT]))

theorem tailC (bs : List UInt8) (p : Int) (hp : 0 ≤ p ∧ p < 700000000) (hb : bs.length ≤ 2000) (q : Int) (b : List BS) (h1 : p ≤ q) (h2 : q ≤ p + 300) (hg : BkG b) (hbl : b.length ≤ 14) :
    VA Go.Proofs.Tryd.prog ⟨58, [1000]⟩ ac75_rest (tA bs (q, b)) (retQ Go.Proofs.Tryd.prog [ResultVar.cell 2 47] (trailR bs p)) := by
  simp only [ac75_rest, ac75]
  refine va_cutW (X := Int × List BO) (fun x => tS bs b 0 (0, x.1, x.2)) (fun x => p ≤ x.1 ∧ x.1 ≤ p + 501 ∧ OpsG x.2 ∧ x.2.length ≤ 8) ?_ ?_
  · simp [tA, bkRow]
    refine callPick (p := q) (by omega) hb (by simp) fun k hk _ => ?_
    obtain ⟨k1, k2⟩ := hk (by omega)
    simp
    refine loop75 bs b p k (q + 1) (by omega) hp (by omega) hb hg hbl ?_ fun st q' ops g1 g2 g3 g4 g5 => ?_
    · rw [ts_nil]
      exact sw_can [0, 2, 3, 4, 5] [(1000, 1000), (2, 2), (3, 3), (4, 4)] (by simp [canonOk]) (by simp [canon, obOf, tN, zTr, bkRow, rdOb])
    · simp
      exact cutW_of (q', ops) ⟨g1, g2, g3, g4⟩ g5
  rintro ⟨q1, ops⟩ ⟨g1, g2, g3, g4⟩
  simp only at g1 g2 g3 g4
  by_cases hn : ops = []
  · subst hn
    simp only [ts_nil]
    refine va_seq (va_of_ev _ ?_)
    have e5 : IntKind.i64.wrap 1 = 1 := by decide
    simp [tN, e5]
    refine callPick (p := q1) (by omega) hb (by simp) fun s hs _ => ?_
    simp
    refine va_pre ?_ (mid75 bs p hp hb (q1 + 1) b [] 0 [] s (by omega) (by omega) hg hbl g3 (by simp) (by simp) (by simp) (by simp) rfl)
    refine (sw_ph 33 5 (by simp) (by simp)).trans ((sw_impc 3 1 (sz := 3) (row := [.lst 11 (b.map BS.row), .nils, .int .i64 s]) (b := .slc 33 0 0 0) (by simp) (by simp) ?_).trans ?_)
    · exact fun w Z γ v h => by cases h; exact .slc0 _ _ _ _
    · exact sw_can [0, 2, 3, 4] [(1000, 1000), (2, 2), (3, 3), (4, 4), (33, 901)] (by simp [canonOk]) (by simp [canon, obOf, tD, zTr, bkRow, rdOb])
  · rw [show tS bs b 0 (0, q1, ops) = tC bs b 0 ops q1 0 from ts_cons bs b 0 q1 0 hn]
    refine va_capc (k := 3) (j := 1) (id := 901) (len := ops.length) (o := opsOb ops) (row := [.lst 11 (b.map BS.row), .sl 901 0 ops.length, .int .i64 0]) (sz := 3) (by simp [tC]) (by simp) (by simp) (by simp [tC]) (by omega) fun cap hcap => ?_
    obtain ⟨E, hE⟩ : ∃ E, E = (capOb (opsOb ops) cap).els := ⟨_, rfl⟩
    have hob : capOb (opsOb ops) cap = ⟨5, E⟩ := by rw [hE]; rfl
    have hEl : E.length = cap := by rw [hE]; simp [capOb]; omega
    have hET : E.take ops.length = ops.map BO.row := by
      rw [hE]; simp only [capOb, ops_els, ops_sz]
      rw [List.take_append_of_le_length (by simp), List.take_of_length_le (by simp)]
    have hEc : clR E = true := by
      rw [hE]; simp only [capOb, ops_els, ops_sz]
      refine clR_app (clR_ops ops) ?_
      simp only [clR, List.all_eq_true]
      intro x hx
      obtain ⟨_, rfl⟩ := List.mem_replicate.1 hx
      rfl
    rw [hob]
    refine va_seq (va_of_ev _ ?_)
    have e6 : IntKind.i64.wrap ((ops.length : Int) + 1) = (ops.length : Int) + 1 := i64_in' _ (by omega)
    simp [tC, e6]
    refine callPick (p := q1) (by omega) hb (by simp) fun s hs _ => ?_
    simp
    refine va_pre ?_ (mid75 bs p hp hb (q1 + 1) b ops cap E s (by omega) (by omega) hg hbl g3 g4 hcap hEl hET hEc)
    exact sw_can [0, 2, 3, 4] [(1000, 1000), (2, 2), (3, 3), (4, 4), (901, 901)] (by simp [canonOk]) (by simp [canon, obOf, tD, zTr, bkRow, rdOb, map_cl _ hEc])

theorem trailC (bs : List UInt8) (p : Int) (hp : 0 ≤ p ∧ p < 700000000) (hb : bs.length ≤ 2000) : ACall Go.Proofs.Tryd.prog 75 [.ptr 1000 0 0] [(1000, rdOb bs p)] (trailR bs p) := by
  apply vv75 (by simp) (by simp)
  refine va_seq (va_of_ev _ ?_)
  simp
  refine va_seq (va_of_ev _ ?_)
  simp
  refine callNum (p := p) [0, 6, 14] (by omega) hb (by simp) (by omega) (by simp [i64Ob, i64Row]) (by simp) (by simp) (by simp) fun n hn => ?_
  have hn2 : 0 ≤ n ∧ n ≤ 14 := by
    simp only [List.mem_cons, List.not_mem_nil, or_false] at hn
    omega
  simp
  refine callA_wh [(1000, .whole 1000)] en114 (playedC bs (p + 1) n (by omega) (by omega) hb) (by simp) (by simp) (by simp) (by simp) (by simp) ?_
  rintro r L' ⟨q, b, h1, h2, h3, h4, hcase⟩
  have tail : ∀ x : Int × List BS, (p ≤ x.1 ∧ x.1 ≤ p + 300 ∧ BkG x.2 ∧ x.2.length ≤ 14) → VA Go.Proofs.Tryd.prog ⟨58, [1000]⟩ ac75_rest (tA bs x) (retQ Go.Proofs.Tryd.prog [ResultVar.cell 2 47] (trailR bs p)) := fun x hx => tailC bs p hp hb x.1 x.2 hx.1 hx.2.1 hx.2.2.1 hx.2.2.2
  rcases hcase with ⟨rfl, rfl, rfl⟩ | ⟨rfl, rfl⟩
  · refine ⟨[], ⟨by simp, by simp, by simp, by simp, by simp⟩, ?_⟩
    simp
    refine va_cutW (X := Int × List BS) (tA bs) (fun x => p ≤ x.1 ∧ x.1 ≤ p + 300 ∧ BkG x.2 ∧ x.2.length ≤ 14) ?_ tail
    simp
    refine cutW_of (q, []) ⟨by simp only; omega, by simp only; omega, h3, by simp⟩ ?_
    exact (sw_impc 3 0 (sz := 3) (row := [.nils, .nils, .int .i64 0]) (b := .lst 11 []) (by simp) (by simp) (impA_nils 11)).trans ((sw_imp1 4 (a := .nils) (b := .lst 11 []) (by simp) (impA_nils 11)).trans (sw_can [0, 2, 3, 4] [(1000, 1000), (2, 2), (3, 3), (4, 4)] (by simp [canonOk]) (by simp [canon, obOf, tA, zTr, bkRow, rdOb])))
  · refine ⟨[(901, 901)], ⟨by simp, by simp, by simp, by simp, by simp⟩, ?_⟩
    simp
    refine va_cutW (X := Int × List BS) (tA bs) (fun x => p ≤ x.1 ∧ x.1 ≤ p + 300 ∧ BkG x.2 ∧ x.2.length ≤ 14) ?_ tail
    simp
    refine cutW_of (q, b) ⟨by simp only; omega, by simp only; omega, h3, by simp only; omega⟩ ?_
    exact sw_fr 901 (o := bkOb b) (by simp [bkOb]) (by simp) (by simp) (by simp) [0, 2, 3, 4] [(1000, 1000), (2, 2), (3, 3), (4, 4)] (by simp [canonOk]) (by simp [canon, obOf, tA, zTr, bkRow, rdOb, bkOb])
end Go.Av.F
end

section
namespace Go.Av.F
open Go Go.Av
set_option linter.unusedSimpArgs false
set_option linter.unusedVariables false
set_option maxRecDepth 100000
attribute [local simp] tt3 tt4 tt9 tt5 tt22 tt25 tt23 tt35 tt33 tt27 tt42 tt54 tt45 tt47 tt49

def drawTr (r : AV) : Prop := ∃ t : TR, TrG t ∧ t.base.length ≤ 14 ∧ t.since.length ≤ 24 ∧ r = .agg t.row

theorem drawTrC (code : List UInt8) (hl : code.length < 4611686018427387904) : ACall Go.Proofs.Tryd.prog 26 [.lst 1 (code.map u8row)] [] (fun r L' => drawTr r ∧ clA r = true ∧ L' = []) := by
  have k1 : ACall Go.Proofs.Tryd.prog 26 [.lst 1 (code.map u8row)] [] (fun r L' => drawTr r ∧ L' = []) := by
    apply vc26 (by simp) (by simp)
    have hb : (code.take 2000).length ≤ 2000 := by simp; omega
    simp [ac26]
    refine callA_wh [] en55 (openC code hl) (by simp) (by simp) (by simp) (by simp) (by simp) ?_
    rintro r L' ⟨rfl, rfl⟩
    refine ⟨[(10, 1000)], ⟨by simp, by simp, by simp, by simp, by simp⟩, ?_⟩
    generalize code.take 2000 = bs at hb
    simp
    refine callA_wh [(1000, .whole 1000)] en75 (trailC bs 0 (by omega) hb) (by simp) (by simp) (by simp) (by simp) (by simp) ?_
    rintro r L' ⟨t, q, h1, h2, h3, h4, h5, rfl, rfl⟩
    refine ⟨[], ⟨by simp, by simp, by simp, by simp, by simp⟩, ?_⟩
    simp [TR.row]
    exact ⟨t, h1, h2, h3, rfl⟩
  exact k1.mono fun r L' ⟨h1, h2⟩ => ⟨h1, by obtain ⟨t, _, _, _, rfl⟩ := h1; simp [TR.row], h2⟩

theorem nth_ok {t : TR} (h : Ok t.base) : ∀ k, Ok (nthB t k)
  | 0 => h
  | k + 1 => by
    have ih := nth_ok h k
    cases hk : t.since[k]? with
    | none =>
      have : nthB t (k + 1) = nthB t k := by unfold nthB; rw [List.take_add_one, hk]; simp
      rw [this]; exact ih
    | some o =>
      rw [nth_step t hk]
      rcases doB_done (nthB t k) o with ⟨c, _, he⟩ | ⟨x, hd, he⟩
      · have : resB (nthB t k) o = (nthB t k, c) := by unfold resB; rw [if_pos (ok_ok ih).2, he]
        rw [this]; exact ih
      · have : resB (nthB t k) o = (x, 0) := by unfold resB; rw [if_pos (ok_ok ih).2, he]
        rw [this]; exact done_ok ih hd

theorem bkRow_get (l : List (List BS)) (i : Nat) (x : List BS) (h : l[i]? = some x) : (l.map bkRow)[i]? = some (bkRow x) := by simp [h]

theorem loop7 {Q : Exit → S → Prop} (t : TR) (hg : TrG t) (l : List (List BS)) (hl : l.length ≤ 1000) (hB : ∀ x ∈ l, BkG x ∧ x.length ≤ 2000 ∧ Ok x) {st : S}
    (h0 : ∃ φ, canonOk ⟨97, []⟩ φ st ∧ canon [] [3, 4, 5, 6] φ st = ⟨mkT [(3, .ptr 3 0 0), (4, .lst 1 (l.map bkRow)), (5, .lst 1 (l.map bkRow)), (6, .int .i64 (0 : Nat))], hpOf [(3, ⟨3, [t.row]⟩)], Us.of [3]⟩)
    (hex : ∀ st : S, st.t 3 = .ptr 3 0 0 → st.t 4 = .lst 1 (l.map bkRow) → st.h = hpOf [(3, ⟨3, [t.row]⟩)] → st.u = Us.of [3] → Q (.exit 0) st) :
    ev Go.Proofs.Tryd.prog ⟨97, []⟩ (.loop ac7_l0) Q st := by
  refine ev_loopX (X := Nat) [3, 4, 5, 6] (fun i => ⟨mkT [(3, .ptr 3 0 0), (4, .lst 1 (l.map bkRow)), (5, .lst 1 (l.map bkRow)), (6, .int .i64 i)], hpOf [(3, ⟨3, [t.row]⟩)], Us.of [3]⟩) (fun i => l.length - i) (fun i => i ≤ l.length) 0 ⟨by simp, h0⟩ ?_
  intro i hi
  by_cases h1 : i < l.length
  · obtain ⟨x, e0⟩ : ∃ x, l[i] = x := ⟨_, rfl⟩
    have e1 : l[i]? = some x := by rw [← e0]; exact List.getElem?_eq_getElem (by omega)
    have e2 : IntKind.i64.wrap ((i : Int) + 1) = ((i + 1 : Nat) : Int) := by rw [i64_in' _ (by omega)]; omega
    obtain ⟨b1, b2, b3⟩ := hB x (List.mem_of_getElem? e1)
    simp [ac7_l0, h1, e0, e1, bkRow]
    refine callA_val en20 (implSameC x x b1 b1 (by omega) (by omega)) (by simp [bk]) (by simp) ?_
    simp [e0, e1, h1, bkRow]
    refine callA_val en21 (implOkC x b1 (by omega)) (by simp [bk]) (by simp) ?_
    simp [(ok_ok b3).2, e2]
    exact nextX_of (i + 1) (by omega) (by omega) [(3, 3)] (by simp [canonOk]) (by simp [canon, obOf, bkRow, TR.row])
  · have : i = l.length := by omega
    subst this
    simp [ac7_l0]
    exact hex _ rfl rfl rfl rfl

theorem fnTrailBooksC (code : List UInt8) : ACall Go.Proofs.Tryd.prog 7 [.lst 1 (code.map u8row)] [] (fun r L' => r = .bool true ∧ L' = []) := by
  apply vc7 (by simp) (by simp)
  simp [ac7]
  intro h0
  refine callA_ex en26 (drawTrC code (by omega)) (by simp) ?_
  rintro r ⟨t, hg, hbl, hsl, rfl⟩
  simp [TR.row]
  refine callA_val en27 (itrailC t hg) (by simp [TR.row]) (by simp) ?_
  simp
  refine callA_val en28 (strailC t hg) (by simp [TR.row]) (by simp) ?_
  simp
  have hB : ∀ x ∈ booksB t, BkG x ∧ x.length ≤ 2000 ∧ Ok x := fun x hx => by
    unfold booksB at hx
    split at hx
    · rename_i hy
      obtain ⟨i, hi, rfl⟩ := List.mem_map.1 hx
      have hi' := List.mem_range.1 hi
      obtain ⟨g1, g2⟩ := nth_good hg (t.sure.toNat + i)
      exact ⟨g1, by omega, nth_ok (okB_iff.1 hy.1) _⟩
    · simp at hx
  have hlen : (booksB t).length ≤ 1000 := by
    unfold booksB
    split
    · simp; omega
    · simp
  refine loop7 t hg (booksB t) hlen hB ⟨[(3, 3)], by simp [canonOk], by simp [canon, obOf, TR.row]⟩ ?_
  rintro ⟨t0, h0, u0⟩ f3 f4 fh fu
  simp only at f3 f4 fh fu
  subst fh fu
  by_cases hy : okT t
  · obtain ⟨hok, h8, h0', hle⟩ := id hy
    have hacc := booksB_acc hy
    have hL : (booksB t).length = t.since.length + 1 - t.sure.toNat := by rw [hacc]; simp [accT]
    have hne : ¬ booksB t = [] := fun h => by rw [h] at hL; simp at hL; omega
    have e1 : IntKind.i64.wrap ((t.since.length : Int) - t.sure) = (t.since.length : Int) - t.sure := i64_in' _ (by omega)
    have e2 : IntKind.i64.wrap ((t.since.length : Int) - t.sure + 1) = (t.since.length : Int) - t.sure + 1 := i64_in' _ (by omega)
    have e3 : ((booksB t).length : Int) = (t.since.length : Int) - t.sure + 1 := by omega
    have e4 : IntKind.i64.wrap ((t.since.length : Int) + 1) = (t.since.length : Int) + 1 := i64_in' _ (by omega)
    by_cases hz : t.sure = 0
    · simp [f3, f4, TR.row, hne, e1, e2, e3, hz, e4]
    · have e5 : IntKind.i64.wrap (t.sure - 1) = t.sure - 1 := i64_in' _ (by omega)
      simp [f3, f4, TR.row, hne, e1, e2, e3, hz, e4, e5]
      intro _
      have hg2 : TrG ⟨t.base, t.since, t.sure - 1⟩ := hg
      have hy2 : okT ⟨t.base, t.since, t.sure - 1⟩ := ⟨hok, h8, by simp only; omega, by simp only; omega⟩
      have hacc2 := booksB_acc hy2
      refine callA_val en27 (itrailC ⟨t.base, t.since, t.sure - 1⟩ hg2) (by simp [TR.row]) (by simp) ?_
      have hL2 : (booksB ⟨t.base, t.since, t.sure - 1⟩).length = (booksB t).length + 1 := by rw [hL, hacc2]; simp [accT]; omega
      have hn0 : (booksB t)[0]? = some (nthB t t.sure.toNat) := by
        rw [hacc]; unfold accT
        rw [List.getElem?_map, List.getElem?_range (by omega)]; simp
      have hn1 : (booksB ⟨t.base, t.since, t.sure - 1⟩)[1]? = some (nthB t t.sure.toNat) := by
        rw [hacc2]; unfold accT
        rw [List.getElem?_map, List.getElem?_range (by simp only; omega)]
        simp only [Option.map_some, Option.some.injEq]
        show nthB t ((t.sure - 1).toNat + 1) = _
        congr 1; omega
      generalize booksB ⟨t.base, t.since, t.sure - 1⟩ = less at hL2 hn1
      generalize booksB t = list at *
      have e7 : IntKind.i64.wrap ((list.length : Int) + 1) = (list.length : Int) + 1 := i64_in' _ (by omega)
      have hpos : 0 < list.length := (List.getElem?_eq_some_iff.1 hn0).1
      obtain ⟨g1, g2⟩ := nth_good hg t.sure.toNat
      have hm0 : list[0] = nthB t t.sure.toNat := (List.getElem?_eq_some_iff.1 hn0).2
      have hm1 : less[1]'(by omega) = nthB t t.sure.toNat := (List.getElem?_eq_some_iff.1 hn1).2
      simp [f4, hL2, e7, hn0, hn1, bkRow, hpos, hm0, hm1]
      refine ⟨by omega, ?_⟩
      refine callA_val en20 (implSameC (nthB t t.sure.toNat) (nthB t t.sure.toNat) g1 g1 (by omega) (by omega)) (by simp [bk]) (by simp) ?_
      simp
  · have hnil : booksB t = [] := by
      unfold booksB; rw [if_neg (id hy : ¬ (bookOkB t.base = true ∧ t.since.length ≤ 8 ∧ 0 ≤ t.sure ∧ t.sure ≤ t.since.length))]
    simp [f3, f4, hnil]
end Go.Av.F
end
