/- Lemmas for the proof, no statement of the seat; no conditions. -/
import Derived.Test.YtffammdakbbanaaDoorLayAK
import Derived.Sort.Walk0
import Derived.Test.YtffammdakbbanaaDoorProg
import Derived.Shelf.Small.Strs
section
namespace Go.Av.F
open Go Go.Av
open Go.Proofs Go.Proofs.Tryd
attribute [-simp] getU hdS canon canonOk i64w
set_option linter.unusedSimpArgs false
set_option linter.unusedVariables false
set_option maxRecDepth 100000
attribute [local simp] tt3 tt4 tt9 tt5 tt84 tt39 tt37 tt90 tt88
theorem row3j (b : BS) (j : Nat) : (BS.row b)[3 + j]? = b.bl[j]?.map .str := by
  rw [show 3 + j = j + 1 + 1 + 1 by omega]; simp [BS.row]
attribute [simp] row3j
end Go.Av.F
end
section
namespace Go.Av.F
open Go Go.Av
open Go.Proofs Go.Proofs.Tryd
attribute [-simp] getU hdS canon canonOk i64w
set_option linter.unusedSimpArgs false
set_option linter.unusedVariables false
set_option maxRecDepth 100000
attribute [local simp] tt3 tt4 tt9 tt5 tt84 tt39 tt37 tt90 tt88
theorem clR_bk (bs : List BS) : clR (bs.map BS.row) = true := by simp [clR]
attribute [simp] clR_bk
theorem bk_take (bs : List BS) : (bs.map BS.row).take bs.length = bs.map BS.row := List.take_of_length_le (by simp)
attribute [simp] bk_take
end Go.Av.F
end
section
namespace Go.Av.F
open Go Go.Av
open Go.Proofs Go.Proofs.Tryd
attribute [-simp] getU hdS canon canonOk i64w
set_option linter.unusedSimpArgs false
set_option linter.unusedVariables false
set_option maxRecDepth 100000
attribute [local simp] tt3 tt4 tt9 tt5 tt84 tt39 tt37 tt90 tt88 tt53
structure BO where
  kind : Int
  a : List UInt8
  b : List UInt8
  i : Int
  text : List UInt8
deriving DecidableEq, Inhabited
def BO.row (o : BO) : List AV := [.int .i64 o.kind, .str o.a, .str o.b, .int .i64 o.i, .str o.text]
end Go.Av.F
end
section
namespace Go.Av.F
open Go Go.Av
open Go.Proofs Go.Proofs.Tryd
attribute [-simp] getU hdS canon canonOk i64w
set_option linter.unusedSimpArgs false
set_option linter.unusedVariables false
set_option maxRecDepth 100000
attribute [local simp] tt3 tt4 tt9 tt5 tt84 tt39 tt37 tt90 tt88 tt53
theorem clL_strs : ∀ l : List (List UInt8), clL (l.map AV.str) = true
  | [] => rfl
  | a :: r => by simp [clL_strs r]
@[simp] theorem mtL_strs (hv : Hp) (ids : List Nat) (ρ : Nat → Option Plc) (l : List (List UInt8)) : mtL hv ids ρ (l.map AV.str) (l.map AV.str) := mtL_cl _ (clL_strs l)
end Go.Av.F
end
section
namespace Go.Av.F
open Go Go.Av
open Go.Proofs Go.Proofs.Tryd
attribute [-simp] getU hdS canon canonOk i64w
set_option linter.unusedSimpArgs false
set_option linter.unusedVariables false
set_option maxRecDepth 100000
attribute [local simp] tt3 tt4 tt9 tt5 tt84 tt39 tt37 tt90 tt88 tt53
end Go.Av.F
end
section
namespace Go.Av.F
open Go Go.Av
open Go.Proofs Go.Proofs.Tryd
attribute [-simp] getU hdS canon canonOk i64w
set_option linter.unusedSimpArgs false
set_option linter.unusedVariables false
set_option maxRecDepth 100000
attribute [local simp] tt3 tt4 tt9 tt5 tt84 tt39 tt37 tt90 tt88 tt53
end Go.Av.F
end
section
namespace Go.Av.F
open Go Go.Av
open Go.Proofs Go.Proofs.Tryd
attribute [-simp] getU hdS canon canonOk i64w
set_option linter.unusedSimpArgs false
set_option linter.unusedVariables false
set_option maxRecDepth 100000
attribute [local simp] tt3 tt4 tt9 tt5 tt84 tt39 tt37 tt90 tt88 tt53 tt127
theorem withinC (a b c : Int) : ACall Go.Proofs.Tryd.prog 38 [.int .i64 a, .int .i64 b, .int .i64 c] [] (fun x L' => x = .bool (decide (b ≤ a) && decide (a ≤ c)) ∧ L' = []) := by
  refine acx func38 [] ntmps38 rfl rfl rfl ?_
  simp
  constructor
  · intros; omega
  · intros; omega
theorem isBlockC (i : Int) : ACall Go.Proofs.Tryd.prog 28 [.int .i64 i] [] (fun x L' => x = .bool (decide (0 ≤ i) && decide (i ≤ 7)) ∧ L' = []) := by
  refine acx func28 [] ntmps28 rfl rfl rfl ?_
  simp
  refine callA_val (by kernel_rfl) (withinC i 0 7) (by simp) (by simp) ?_
  simp
end Go.Av.F
end
section
namespace Go.Av.F
open Go Go.Av
open Go.Proofs Go.Proofs.Tryd
attribute [-simp] getU hdS canon canonOk i64w
set_option linter.unusedSimpArgs false
set_option linter.unusedVariables false
set_option maxRecDepth 100000
attribute [local simp] tt3 tt4 tt9 tt5 tt84 tt39 tt37 tt90 tt88 tt53 tt127
@[simp] theorem mtL_row (hv : Hp) (ids : List Nat) (ρ : Nat → Option Plc) (b : BS) : mtL hv ids ρ (BS.row b) (BS.row b) := mtL_cl _ (row_cl b)
end Go.Av.F
end
section
namespace Go.Av.F
open Go Go.Av
open Go.Proofs Go.Proofs.Tryd
attribute [-simp] getU hdS canon canonOk i64w
set_option linter.unusedSimpArgs false
set_option linter.unusedVariables false
set_option maxRecDepth 100000
attribute [local simp] tt3 tt4 tt9 tt5 tt84 tt39 tt37 tt90 tt88 tt53 tt127
end Go.Av.F
end
section
namespace Go.Av.F
open Go Go.Av
open Go.Proofs Go.Proofs.Tryd
attribute [-simp] getU hdS canon canonOk i64w
set_option linter.unusedSimpArgs false
set_option linter.unusedVariables false
set_option maxRecDepth 100000
attribute [local simp] tt3 tt4 tt9 tt5 tt84 tt147 tt151
end Go.Av.F
end
section
namespace Go.Av.F
open Go Go.Av
open Go.Proofs Go.Proofs.Tryd
attribute [-simp] getU hdS canon canonOk i64w
set_option linter.unusedSimpArgs false
set_option linter.unusedVariables false
set_option maxRecDepth 100000
attribute [local simp] tt3 tt4 tt9 tt5 tt84 tt147 tt151
end Go.Av.F
end
section
namespace Go.Av.F
open Go Go.Av
open Go.Proofs Go.Proofs.Tryd
attribute [-simp] getU hdS canon canonOk i64w
set_option linter.unusedSimpArgs false
set_option linter.unusedVariables false
set_option maxRecDepth 100000
attribute [local simp] tt3 tt4 tt9 tt5 tt84 tt147 tt151
end Go.Av.F
end
section
namespace Go.Av.F
open Go Go.Av
open Go.Proofs Go.Proofs.Tryd
attribute [-simp] getU hdS canon canonOk i64w
set_option linter.unusedSimpArgs false
set_option linter.unusedVariables false
set_option maxRecDepth 100000
attribute [local simp] tt3 tt4 tt9 tt5 tt84 tt147 tt151
end Go.Av.F
end
section
namespace Go.Av.F
open Go Go.Av
open Go.Proofs Go.Proofs.Tryd
attribute [-simp] getU hdS canon canonOk i64w
set_option linter.unusedSimpArgs false
set_option linter.unusedVariables false
set_option maxRecDepth 100000
attribute [local simp] tt3 tt4 tt9 tt5 tt84 tt39 tt37 tt90 tt88 tt53 tt50
end Go.Av.F
end
section
namespace Go.Av.F
open Go Go.Av
open Go.Proofs Go.Proofs.Tryd
attribute [-simp] getU hdS canon canonOk i64w
set_option linter.unusedSimpArgs false
set_option linter.unusedVariables false
set_option maxRecDepth 100000
attribute [local simp] tt3 tt4 tt9 tt5 tt84 tt39 tt37 tt90 tt88 tt53 tt50
end Go.Av.F
end
section
namespace Go.Av.F
open Go Go.Av
open Go.Proofs Go.Proofs.Tryd
attribute [-simp] getU hdS canon canonOk i64w
set_option linter.unusedSimpArgs false
set_option linter.unusedVariables false
set_option maxRecDepth 100000
attribute [local simp] tt3 tt4 tt9 tt5 tt84 tt39 tt37 tt90 tt88 tt53 tt50
end Go.Av.F
end
section
namespace Go.Av.F
open Go Go.Av
open Go.Proofs Go.Proofs.Tryd
attribute [-simp] getU hdS canon canonOk i64w
set_option linter.unusedSimpArgs false
set_option linter.unusedVariables false
set_option maxRecDepth 100000
attribute [local simp] tt3 tt4 tt9 tt5 tt84 tt39 tt37 tt90 tt88 tt53 tt50
end Go.Av.F
end
section
namespace Go.Av.F
open Go Go.Av
open Go.Proofs Go.Proofs.Tryd
attribute [-simp] getU hdS canon canonOk i64w
set_option linter.unusedSimpArgs false
set_option linter.unusedVariables false
set_option maxRecDepth 100000
attribute [local simp] tt3 tt4 tt9 tt5 tt84 tt39 tt37 tt90 tt88 tt53 tt50
@[simp] theorem row_comp (ρ : Nat → Option Plc) : (renL ρ ∘ BS.row) = BS.row := funext fun b => row_ren ρ b
end Go.Av.F
end
section
namespace Go.Av.F
open Go Go.Av
open Go.Proofs Go.Proofs.Tryd
attribute [-simp] getU hdS canon canonOk i64w
set_option linter.unusedSimpArgs false
set_option linter.unusedVariables false
set_option maxRecDepth 100000
attribute [local simp] tt3 tt4 tt9 tt5 tt84 tt39 tt37 tt90 tt88 tt53 tt50
def opOb (o : BO) : Ob := ⟨5, [BO.row o]⟩
@[simp] theorem bo_ren (ρ : Nat → Option Plc) (o : BO) : renL ρ (BO.row o) = BO.row o := by simp [BO.row]
@[simp] theorem opOb_ren (ρ : Nat → Option Plc) (o : BO) : renOb ρ (opOb o) = opOb o := by simp [opOb]
end Go.Av.F
end
section
namespace Go.Av.F
open Go Go.Av
open Go.Proofs Go.Proofs.Tryd
attribute [-simp] getU hdS canon canonOk i64w
set_option linter.unusedSimpArgs false
set_option linter.unusedVariables false
set_option maxRecDepth 100000
attribute [local simp] tt3 tt4 tt9 tt5 tt84 tt39 tt37 tt90 tt88 tt53 tt50
end Go.Av.F
end
section
namespace Go.Av.F
open Go Go.Av
open Go.Proofs Go.Proofs.Tryd
attribute [-simp] getU hdS canon canonOk i64w
set_option linter.unusedSimpArgs false
set_option linter.unusedVariables false
set_option maxRecDepth 100000
attribute [local simp] tt3 tt4 tt9 tt5 tt84 tt39 tt37 tt90 tt88 tt53 tt50
end Go.Av.F
end
section
namespace Go.Av.F
open Go Go.Av
set_option linter.unusedSimpArgs false
set_option linter.unusedVariables false
inductive Rt (bs : List BS) : BS → Prop
  | root (s : BS) : s.frm = [] → s.kind = 1 → Rt bs s
  | step (s t : BS) : s.frm ≠ [] → t ∈ bs → t.name = s.frm → t.kind ≠ s.kind → Rt bs t → Rt bs s
theorem Rt.map {bs bs' : List BS} (hb : ∀ u ∈ bs, ∃ u' ∈ bs', u'.name = u.name ∧ u'.kind = u.kind ∧ u'.frm = u.frm) {s : BS} (h : Rt bs s) : ∀ s' : BS, s'.frm = s.frm → s'.kind = s.kind → Rt bs' s' := by
  induction h with
  | root s h1 h2 => exact fun s' e1 e2 => .root s' (e1.trans h1) (e2.trans h2)
  | step s t h1 h2 h3 h4 _ ih =>
    intro s' e1 e2
    obtain ⟨u, hu, g1, g2, g3⟩ := hb t h2
    exact .step s' u (by rw [e1]; exact h1) hu (by rw [e1, g1]; exact h3) (by rw [e2, g2]; exact h4) (ih u g3 g2)
end Go.Av.F
end
section
namespace Go.Av.F
open Go Go.Av
open Go.Proofs Go.Proofs.Tryd
attribute [-simp] getU hdS canon canonOk i64w
set_option linter.unusedSimpArgs false
set_option linter.unusedVariables false
structure PT where
  pa : Int
  ps : Int
  pb : Int
deriving DecidableEq, Inhabited
def PT.row (p : PT) : List AV := [.int .i64 p.pa, .int .i64 p.ps, .int .i64 p.pb]
structure CS where
  name : List UInt8
  kind : Int
  frm : List UInt8
  map : List PT
  home : PT
  dirty : Bool
deriving DecidableEq, Inhabited
def CS.row (s : CS) : List AV := .str s.name :: .int .i64 s.kind :: .str s.frm :: (s.map.flatMap PT.row ++ (s.home.row ++ [.bool s.dirty]))
structure DE where
  es : Int
  ea : Int
  ec : Int
deriving DecidableEq, Inhabited
def DE.row (e : DE) : List AV := [.int .i64 e.es, .int .i64 e.ea, .int .i64 e.ec]
def intRow (n : Int) : List AV := [.int .i64 n]
structure CO where
  txg : Int
  sets : List CS
  ddt : List DE
  parts : List PT
  dirty : Bool
  safe : List Int
  logn : Int
deriving DecidableEq, Inhabited
def CO.row (c : CO) : List AV := [.int .i64 c.txg, .lst 31 (c.sets.map CS.row), .lst 3 (c.ddt.map DE.row), .lst 3 (c.parts.map PT.row), .bool c.dirty, .lst 1 (c.safe.map intRow), .int .i64 c.logn]
open Go.Proofs
set_option maxRecDepth 100000
end Go.Av.F
end
section
namespace Go.Av.F
open Go Go.Av
open Go.Proofs Go.Proofs.Tryd
attribute [-simp] getU hdS canon canonOk i64w
set_option linter.unusedSimpArgs false
set_option linter.unusedVariables false
set_option maxRecDepth 100000
attribute [local simp] tt3 tt4 tt9
end Go.Av.F
end
section
namespace Go.Av.F
open Go Go.Av
open Go.Proofs Go.Proofs.Tryd
attribute [-simp] getU hdS canon canonOk i64w
set_option linter.unusedSimpArgs false
set_option linter.unusedVariables false
set_option maxRecDepth 100000
attribute [local simp] tt3 tt4 tt9
def fillB (l : List (List AV)) (z : List AV) (i : Nat) : List (List AV) := l.take i ++ List.replicate (l.length - i) z
end Go.Av.F
end
section
namespace Go.Av.F
open Go Go.Av
open Go.Proofs Go.Proofs.Tryd
attribute [-simp] getU hdS canon canonOk i64w
set_option linter.unusedSimpArgs false
set_option linter.unusedVariables false
set_option maxRecDepth 100000
attribute [local simp] tt3 tt4 tt9
end Go.Av.F
end
section
namespace Go.Av.F
open Go Go.Av
open Go.Proofs Go.Proofs.Tryd
attribute [-simp] getU hdS canon canonOk i64w
set_option linter.unusedSimpArgs false
set_option linter.unusedVariables false
set_option maxRecDepth 100000
attribute [local simp] tt3 tt4 tt9
end Go.Av.F
end
section
namespace Go.Av.F
open Go Go.Av
open Go.Proofs Go.Proofs.Tryd
attribute [-simp] getU hdS canon canonOk i64w
set_option linter.unusedSimpArgs false
set_option linter.unusedVariables false
set_option maxRecDepth 100000
attribute [local simp] tt3 tt4 tt9 tt5 tt84 tt39 tt37 tt90 tt88 tt53 tt50 tt22 tt41 tt35
structure TR where
  base : List BS
  since : List BO
  sure : Int
def TR.row (t : TR) : List AV := [.lst 11 (t.base.map BS.row), .lst 5 (t.since.map BO.row), .int .i64 t.sure]
theorem op_len (o : BO) : (BO.row o).length = 5 := rfl
theorem op_take (o : BO) : (BO.row o).take 5 = BO.row o := rfl
attribute [local simp] op_len op_take
end Go.Av.F
end
section
namespace Go.Av.F
open Go Go.Av
open Go.Proofs Go.Proofs.Tryd
attribute [-simp] getU hdS canon canonOk i64w
set_option linter.unusedSimpArgs false
set_option linter.unusedVariables false
set_option maxRecDepth 100000
attribute [local simp] tt3 tt4 tt9 tt5 tt84 tt39 tt37 tt90 tt88 tt53 tt50 tt22 tt41 tt35 op_len op_take
def opsOb (l : List BO) : Ob := ⟨5, l.map BO.row⟩
theorem ops_sz (l : List BO) : (opsOb l).sz = 5 := rfl
theorem ops_els (l : List BO) : (opsOb l).els = l.map BO.row := rfl
theorem renL_opc (ρ : Nat → Option Plc) : (renL ρ ∘ BO.row) = BO.row := by funext x; simp [BO.row]
theorem take_ops (l : List BO) : List.take l.length (l.map BO.row) = l.map BO.row := List.take_of_length_le (by simp)
attribute [local simp] ops_sz ops_els renL_opc take_ops
theorem clR_ops (l : List BO) : clR (l.map BO.row) = true := by
  unfold clR
  rw [List.all_map, List.all_eq_true]
  intro b _
  simp [BO.row, clL, clA]
end Go.Av.F
end
section
namespace Go.Av.F
open Go Go.Av
open Go.Proofs Go.Proofs.Tryd
attribute [-simp] getU hdS canon canonOk i64w
set_option linter.unusedSimpArgs false
set_option linter.unusedVariables false
set_option maxRecDepth 100000
attribute [local simp] tt3 tt4 tt9 tt5 tt84 tt39 tt37 tt90 tt88 tt53 tt50
theorem isU8_wrap (x : Int) : isU8 [.int .u8 (IntKind.u8.wrap x)] = true := by
  have h : IntKind.u8.wrap x = x % 256 := rfl
  simp [isU8, h]
  try omega
end Go.Av.F
end
section
namespace Go.Av.F
open Go Go.Av
open Go.Proofs Go.Proofs.Tryd
attribute [-simp] getU hdS canon canonOk i64w
set_option linter.unusedSimpArgs false
set_option linter.unusedVariables false
set_option maxRecDepth 100000
attribute [local simp] tt3 tt4 tt9 tt5 tt84 tt39 tt37 tt90 tt88 tt53 tt50
@[simp] theorem mtL_bo (hv : Hp) (ids : List Nat) (ρ : Nat → Option Plc) (o : BO) : mtL hv ids ρ (BO.row o) (BO.row o) := mtL_cl _ (by simp [BO.row])
end Go.Av.F
end
section
namespace Go.Av.F
open Go Go.Av
open Go.Proofs Go.Proofs.Tryd
attribute [-simp] getU hdS canon canonOk i64w
set_option linter.unusedSimpArgs false
set_option linter.unusedVariables false
set_option maxRecDepth 100000
attribute [local simp] tt3 tt4 tt9 tt5 tt84 tt39 tt37 tt90 tt88 tt53 tt50
@[simp] theorem row_drop1 (t : BS) : (BS.row t).drop 1 = .int .i64 t.kind :: .str t.frm :: t.bl.map .str := rfl
@[simp] theorem row_drop2 (t : BS) : (BS.row t).drop 2 = .str t.frm :: t.bl.map .str := rfl
@[simp] theorem row_take1 (t : BS) : (BS.row t).take 1 = [.str t.name] := rfl
@[simp] theorem row_take2 (t : BS) : (BS.row t).take 2 = [.str t.name, .int .i64 t.kind] := rfl
@[simp] theorem row_take3 (t : BS) : (BS.row t).take 3 = [.str t.name, .int .i64 t.kind, .str t.frm] := rfl
end Go.Av.F
end
section
namespace Go.Av.F
open Go Go.Av
open Go.Proofs Go.Proofs.Tryd
attribute [-simp] getU hdS canon canonOk i64w
set_option linter.unusedSimpArgs false
set_option linter.unusedVariables false
set_option maxRecDepth 100000
attribute [local simp] tt3 tt4 tt9 tt5 tt84 tt39 tt37 tt90 tt88 tt53 tt50
end Go.Av.F
end
section
namespace Go.Av.F
open Go Go.Av
open Go.Proofs Go.Proofs.Tryd
attribute [-simp] getU hdS canon canonOk i64w
set_option linter.unusedSimpArgs false
set_option linter.unusedVariables false
end Go.Av.F
end
