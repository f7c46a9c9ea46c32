/- Lemmas for the proof, no statement of the seat; no conditions. -/
import Derived.Test.YtiidedhlnlaalaaDoorLayAJ
import Derived.Below
import Derived.WalkKit
import Derived.Test.YtiidedhlnlaalaaDoorRows
import Derived.Test.YtiidedhlnlaalaaDoorCards
import Derived.ProofKit
import Derived.OpenShut
import Derived.LaidMore
import Derived.Lay
import Derived.SevenTiedAt
import Derived.Stop.Joined
import Derived.Test.YtiidedhlnlaalaaDoorProg
section
namespace Go.Av.F
open Go Go.Av
set_option linter.unusedSimpArgs false
set_option linter.unusedVariables false
theorem bl_irrefl (a : List UInt8) : Op.bytesLess a a = false := by
  rw [Go.Proofs.bytesLess_eq]; simp [Std.lt_irrefl]
theorem srt_inj {bs : List BS} (hS : Srt bs) {i j : Nat} {a b : BS} (ha : bs[i]? = some a) (hb : bs[j]? = some b) (h : a.name = b.name) : i = j := by
  rcases Nat.lt_trichotomy i j with hij | hij | hij
  · have := hS i j a b hij ha hb; rw [h, bl_irrefl] at this; cases this
  · exact hij
  · have := hS j i b a hij hb ha; rw [h, bl_irrefl] at this; cases this
theorem atP_of {bs : List BS} (hS : Srt bs) {j : Nat} {t : BS} (ht : bs[j]? = some t) : atP bs t.name = j ∧ atB bs t.name = true := by
  have h := (takeWhile_step (fun b : BS => Op.bytesLess b.name t.name) bs j t (fun x hx y hy => hS x j y t hx hy ht) ht).2 (bl_irrefl _)
  have h' : atP bs t.name = j := h
  exact ⟨h', by unfold atB; rw [h', ht]; simp⟩
theorem find_at {bs : List BS} (hS : Srt bs) (x : List UInt8) : bs.findIdx? (fun b => b.name == x) = if atB bs x = true then some (atP bs x) else none := by
  split
  · rename_i h
    obtain ⟨u, hu, hun⟩ := atB_some h
    refine idx_step (fun b => b.name == x) bs (atP bs x) u (fun j hj y hy => ?_) hu (by simp [hun])
    rw [beq_eq_false_iff_ne]
    intro e
    have := srt_inj hS hy hu (e.trans hun.symm)
    omega
  · rename_i h
    rw [List.findIdx?_eq_none_iff]
    intro b hb
    obtain ⟨j, hj, e⟩ := List.mem_iff_getElem.1 hb
    rw [beq_eq_false_iff_ne]
    intro e2
    have hb2 : bs[j]? = some b := by rw [← e]; exact List.getElem?_eq_getElem hj
    have := (atP_of hS hb2).2
    rw [e2] at this; exact h this
theorem leads_roots {bs : List BS} (hS : Srt bs) : ∀ (m : Nat) (s : BS), leadsB bs m s = roots bs m s
  | 0, s => rfl
  | m + 1, s => by
    simp only [leadsB, roots, find_at hS]
    split
    · rfl
    · cases h : atB bs s.frm with
      | false =>
        simp
        split <;> rfl
      | true =>
        simp only [if_true]
        cases hu : bs[atP bs s.frm]? with
        | none => rfl
        | some t =>
          simp only
          by_cases hk : t.kind = s.kind
          · simp [hk]
          · simp [hk, leads_roots hS m t]
theorem roots_mono {bs : List BS} : ∀ (m : Nat) (s : BS), roots bs m s = true → roots bs (m + 1) s = true
  | 0, s, h => by simp [roots] at h
  | m + 1, s, h => by
    simp only [roots] at h
    rw [roots]
    split at h
    · rename_i h1; rw [if_pos h1]; exact h
    · rename_i h1
      rw [if_neg h1]
      split at h
      · rename_i t ht
        split at h
        · rename_i h2; rw [if_pos h2]; exact roots_mono m t h
        · cases h
      · cases h
theorem roots_step {bs : List BS} {m : Nat} (h : ∀ s ∈ bs, roots bs m s = roots bs (m + 1) s) : ∀ s, roots bs (m + 1) s = roots bs (m + 2) s := fun s => by
  rw [roots, roots]
  split
  · rfl
  · split
    · rename_i t ht
      split
      · exact h t (List.mem_of_getElem? ht)
      · rfl
    · rfl
theorem countP_strict {α : Type} {p q : α → Bool} : ∀ {l : List α}, (∀ x ∈ l, p x = true → q x = true) → (∃ x ∈ l, q x = true ∧ p x = false) → l.countP p < l.countP q
  | [], _, h => by obtain ⟨x, hx, _⟩ := h; simp at hx
  | a :: r, h, hex => by
    have hle : r.countP p ≤ r.countP q := List.countP_mono_left fun x hx => h x (List.mem_cons_of_mem _ hx)
    obtain ⟨x, hx, h1, h2⟩ := hex
    simp only [List.mem_cons] at hx
    rcases hx with rfl | hx
    · rw [List.countP_cons, List.countP_cons, if_pos h1, if_neg (by simp [h2])]; omega
    · have := countP_strict (l := r) (fun x hx => h x (List.mem_cons_of_mem _ hx)) ⟨x, hx, h1, h2⟩
      rw [List.countP_cons, List.countP_cons]
      cases ha : p a with
      | true => rw [if_pos rfl, if_pos (h a (by simp) ha)]; omega
      | false =>
        simp only [Bool.false_eq_true, if_false]
        split <;> omega
theorem roots_grow (bs : List BS) : ∀ m : Nat, (∀ s ∈ bs, roots bs m s = roots bs (m + 1) s) ∨ m + 1 ≤ bs.countP (roots bs (m + 1))
  | 0 => by
    rcases Nat.eq_zero_or_pos (bs.countP (roots bs 1)) with h | h
    · left
      intro s hs
      rw [List.countP_eq_zero] at h
      have := h s hs
      simp only [roots, Bool.not_eq_true] at this ⊢
      exact this.symm
    · right; exact h
  | m + 1 => by
    rcases roots_grow bs m with h | h
    · exact .inl fun s _ => roots_step h s
    · by_cases hs : ∀ s ∈ bs, roots bs (m + 1) s = roots bs (m + 2) s
      · exact .inl hs
      · right
        have : ∃ s ∈ bs, roots bs (m + 2) s = true ∧ roots bs (m + 1) s = false := by
          simp only [Classical.not_forall] at hs
          obtain ⟨s, hm, hne⟩ := hs
          refine ⟨s, hm, ?_⟩
          cases h1 : roots bs (m + 1) s with
          | true => exact absurd ((h1.trans (roots_mono _ _ h1).symm)) hne
          | false =>
            cases h2 : roots bs (m + 2) s with
            | true => exact ⟨rfl, rfl⟩
            | false => exact absurd (h1.trans h2.symm) hne
        have : bs.countP (roots bs (m + 1)) < bs.countP (roots bs (m + 1 + 1)) := countP_strict (fun x _ hx => roots_mono (m + 1) x hx) this
        omega
theorem roots_len (bs : List BS) : ∀ s ∈ bs, roots bs bs.length s = roots bs (bs.length + 1) s := by
  rcases roots_grow bs bs.length with h | h
  · exact h
  · have := List.countP_le_length (p := roots bs (bs.length + 1)) (l := bs); omega
theorem ok_eq (bs : List BS) : ibookOkB bs = bookOkB bs := by
  unfold ibookOkB bookOkB
  cases h : okAll bs with
  | false => simp
  | true =>
    have hS := okAll_srt h
    congr 1
    rw [← List.not_all_eq_any_not, Bool.not_not]
    rw [Bool.eq_iff_iff, List.all_eq_true, List.all_eq_true]
    constructor
    · intro h s hs; rw [← roots_len bs s hs, ← leads_roots hS]; exact h s hs
    · intro h s hs; rw [leads_roots hS, roots_len bs s hs]; exact h s hs
end Go.Av.F
end
section
namespace Go.Av.F
open Go Go.Av
set_option linter.unusedSimpArgs false
set_option linter.unusedVariables false
set_option maxRecDepth 100000
attribute [local simp] tt3 tt4 tt9 tt5 tt22 tt25 tt23 tt35 tt33 tt27 tt42 tt54
theorem isU8_wrap (x : Int) : isU8 [.int .u8 (IntKind.u8.wrap x)] = true := by
  have h : IntKind.u8.wrap x = x % 256 := rfl
  simp [isU8, h]
  try omega
end Go.Av.F
end
section
namespace Go.Av.F
open Go Go.Av
set_option linter.unusedSimpArgs false
set_option linter.unusedVariables false
set_option maxRecDepth 100000
attribute [local simp] tt3 tt4 tt9 tt5 tt22 tt25 tt23 tt35 tt33 tt27 tt42 tt54
@[simp] theorem mtL_bo (hv : Hp) (ids : List Nat) (ρ : Nat → Option Plc) (o : BO) : mtL hv ids ρ (BO.row o) (BO.row o) := mtL_cl _ (by simp [BO.row])
end Go.Av.F
end
section
namespace Go.Av.F
open Go Go.Av
set_option linter.unusedSimpArgs false
set_option linter.unusedVariables false
set_option maxRecDepth 100000
attribute [local simp] tt3 tt4 tt9 tt5 tt22 tt25 tt23 tt35 tt33 tt27 tt42 tt54
@[simp] theorem row_drop1 (t : BS) : (BS.row t).drop 1 = .int .i64 t.kind :: .str t.frm :: t.bl.map .str := rfl
@[simp] theorem row_drop2 (t : BS) : (BS.row t).drop 2 = .str t.frm :: t.bl.map .str := rfl
@[simp] theorem row_take1 (t : BS) : (BS.row t).take 1 = [.str t.name] := rfl
@[simp] theorem row_take2 (t : BS) : (BS.row t).take 2 = [.str t.name, .int .i64 t.kind] := rfl
@[simp] theorem row_take3 (t : BS) : (BS.row t).take 3 = [.str t.name, .int .i64 t.kind, .str t.frm] := rfl
end Go.Av.F
end
section
namespace Go.Av.F
open Go Go.Av
set_option linter.unusedSimpArgs false
set_option linter.unusedVariables false
set_option maxRecDepth 100000
attribute [local simp] tt3 tt4 tt9 tt5 tt22 tt25 tt23 tt35 tt33 tt27 tt42 tt54
end Go.Av.F
end
section
namespace Go.Av.F
open Go Go.Av
set_option linter.unusedSimpArgs false
set_option linter.unusedVariables false
inductive Rt (bs : List BS) : BS → Prop
  | root (s : BS) : s.frm = [] → s.kind = 1 → Rt bs s
  | step (s t : BS) : s.frm ≠ [] → t ∈ bs → t.name = s.frm → t.kind ≠ s.kind → Rt bs t → Rt bs s
theorem Rt.map {bs bs' : List BS} (hb : ∀ u ∈ bs, ∃ u' ∈ bs', u'.name = u.name ∧ u'.kind = u.kind ∧ u'.frm = u.frm) {s : BS} (h : Rt bs s) : ∀ s' : BS, s'.frm = s.frm → s'.kind = s.kind → Rt bs' s' := by
  induction h with
  | root s h1 h2 => exact fun s' e1 e2 => .root s' (e1.trans h1) (e2.trans h2)
  | step s t h1 h2 h3 h4 _ ih =>
    intro s' e1 e2
    obtain ⟨u, hu, g1, g2, g3⟩ := hb t h2
    exact .step s' u (by rw [e1]; exact h1) hu (by rw [e1, g1]; exact h3) (by rw [e2, g2]; exact h4) (ih u g3 g2)
end Go.Av.F
end
section
namespace Go.Av.F
open Go Go.Av
set_option linter.unusedSimpArgs false
set_option linter.unusedVariables false
def resB (bs : List BS) (o : BO) : List BS × Int := if bookOkB bs = true then doB bs o else ([], 5)
def bkP (res : List BS × Int) (r : AV) (L' : List (Nat × Ob)) : Prop := r = .tup [bk res.1, .int .i64 res.2] ∧ L' = []
theorem clR_rows : ∀ bs : List BS, clR (bs.map BS.row) = true
  | [] => rfl
  | a :: r => by
    have := clR_rows r
    simp only [clR, List.map_cons, List.all_cons, Bool.and_eq_true] at this ⊢
    refine ⟨?_, this⟩
    simp [BS.row, clL, clL_strs, clA]
theorem pureC {f : Nat} {args : List AV} {xs : List Nat} {bs : List BS} {o : BO} (h : ACall Go.Proofs.Tryd.prog f args [] (bkN xs (bookOkB bs) (doB bs o))) : ACall Go.Proofs.Tryd.prog f args [] (bkP (resB bs o)) := by
  unfold resB
  cases h1 : bookOkB bs with
  | false =>
    rw [h1] at h
    refine h.imp ?_
    rintro r L' hr
    simp only [bkN, Bool.false_eq_true, if_false] at hr
    obtain ⟨rfl, rfl⟩ := hr
    exact ⟨_, impA_tup2 (impA_agg1 (impA_nils 11)) (impA_refl _), rfl, rfl⟩
  | true =>
    rw [h1] at h
    refine h.frz ?_
    rintro r L' hr
    simp only [bkN, if_true] at hr
    obtain ⟨id, _, rfl, rfl⟩ := hr
    refine ⟨id, bkOb (doB bs o).1, rfl, clR_rows _, ?_, rfl⟩
    simp [bk, bkOb]
theorem resB_len (bs : List BS) (o : BO) : (resB bs o).1.length ≤ bs.length + 1 := by
  unfold resB; split
  · exact doB_len bs o
  · simp
end Go.Av.F
end
section
namespace Go.Av
open Go.RowKit
set_option linter.unusedSimpArgs false
set_option linter.unusedVariables false
def Old (w : World) (p : Addr) : Prop := p.block < w.heap.size
theorem old_cell {w : World} {p : Addr} {v : Value} (h : w.cell? p = some v) : Old w p := World.block_lt_of_cell? w _ h
theorem fr_below {F : Addr → Prop} {w w' : World} (h : Fr F w w') (hF : ∀ p, ¬ F p) : Below w.heap.size w w' := by
  refine ⟨h.os, h.tape, h.output, h.size, fun k hk => ?_⟩
  rcases h.blk k hk with e | ⟨c, c', ty, fz, h1, h2, h3, h4⟩
  · exact e
  · have : c' = c := Array.ext_getElem? fun i => h4 i (hF _)
    rw [h1, h2, this]
theorem calls_below {P : Program} {f : Nat} {args : List AV} {v : AV} {u : Value} (hb : hasBody P f = true) {W : World} {vs : Array Value} (hv : CRel W (Old W) noG args vs)
    (hu : ∀ (w : World) (Z : Addr → Prop) (γ : Gm) (x : Value), AVRel w Z γ v x → x = u) (hC : ACall P f args [] (fun r L' => r = v ∧ L' = [])) :
    Calls P f vs W fun e w' => e = .returned u ∧ Below W.heap.size W w' := by
  have hno : ∀ p, ¬ Foot noG (hpOf []) p := fun p hp => by
    obtain ⟨id, o, r, h, _⟩ := hp
    simp at h
  have h := hC W (Old W) noG vs hv ⟨fun i x hx => by simp at hx, fun i j o1 o2 r1 r2 hne g1 => by simp at g1, fun i x rg hx => by simp at hx, fun p hp => hp⟩ (fun id r hr => by simp [noG] at hr)
  refine (h.calls hb).mono ?_
  rintro e w' ⟨x, r, L', Z', γ', rfl, ⟨rfl, rfl⟩, hx, _, hfr, _⟩
  exact ⟨by rw [hu _ _ _ _ hx], fr_below hfr hno⟩
theorem bool_only (b : Bool) : ∀ (w : World) (Z : Addr → Prop) (γ : Gm) (x : Value), AVRel w Z γ (.bool b) x → x = .bool b := fun w Z γ x h => by cases h; rfl
end Go.Av
end
section
namespace Go.Proofs.YtiidedhlnlaalaaDoor
open Go.ChangeShapes Go.WideShapes Go.ChangeAt Go.RowKit
set_option linter.unusedVariables false
theorem fact_own : ownKnob Tryd.prog.godebug = none := by kernel_rfl
theorem fact_laidOut : laidOutB Tryd.prog = true := by kernel_rfl
theorem fact_mapsRowed : mapsRowed Tryd.prog = true := by kernel_rfl
theorem fact_heard : Tryd.prog.stopsHeard = true := by kernel_rfl
theorem fact_mayEnter : Tryd.prog.mayEnter = true := by kernel_rfl
theorem fact_main : Tryd.pinned.checked.prog.mainIs = some (true, "2c87a6b6aad5d6925286b7b8337d65ec16c4c216255dd393ccb0f40eda3f2dd0".toList) := by kernel_rfl
theorem fact_looks : true = Tryd.prog.looks [] := by kernel_rfl
end Go.Proofs.YtiidedhlnlaalaaDoor
end
section
namespace Go.Av.F
open Go Go.Av
set_option linter.unusedSimpArgs false
set_option linter.unusedVariables false
set_option maxRecDepth 100000
attribute [local simp] tt3 tt4 tt9 tt5 tt22 tt25 tt23 tt35 tt33 tt27 tt42 tt54
theorem renL_strc (ρ : Nat → Option Plc) : (renL ρ ∘ strRow) = strRow := by funext x; simp [strRow]
theorem take_str (l : List (List UInt8)) : List.take l.length (l.map strRow) = l.map strRow := List.take_of_length_le (by simp)
attribute [local simp] renL_strc take_str
end Go.Av.F
end
section
namespace Go.Av.F
open Go Go.Av
set_option linter.unusedSimpArgs false
set_option linter.unusedVariables false
set_option maxRecDepth 100000
attribute [local simp] tt3 tt4 tt9 tt5 tt22 tt25 tt23 tt35 tt33 tt27 tt42 tt54
end Go.Av.F
end
section
namespace Go.Av.F
open Go Go.Av
set_option linter.unusedSimpArgs false
set_option linter.unusedVariables false
set_option maxRecDepth 100000
attribute [local simp] tt3 tt4 tt9 tt5 tt22 tt25 tt23 tt35 tt33 tt27 tt42 tt54
end Go.Av.F
end
section
namespace Go.Av.F
open Go Go.Av
set_option linter.unusedSimpArgs false
set_option linter.unusedVariables false
set_option maxRecDepth 100000
attribute [local simp] tt3 tt4 tt9 tt5 tt22 tt25 tt23 tt35 tt33 tt27 tt42 tt54
attribute [local simp] renL_strc take_str
end Go.Av.F
end
section
namespace Go.Av.F
open Go Go.Av
set_option linter.unusedSimpArgs false
set_option linter.unusedVariables false
set_option maxRecDepth 100000
attribute [local simp] tt3 tt4 tt9 tt5 tt22 tt25 tt23 tt35 tt33 tt27 tt42 tt54
attribute [local simp] renL_strc take_str
end Go.Av.F
end
section
namespace Go.Av.F
open Go Go.Av
set_option linter.unusedSimpArgs false
set_option linter.unusedVariables false
inductive Dn (b : List BS) (x : List UInt8) : List UInt8 → Prop
  | self : Dn b x x
  | kid (s : BS) : s ∈ b → Dn b x s.frm → Dn b x s.name
theorem Dn.trans {b : List BS} {x y z : List UInt8} (h : Dn b x y) (k : Dn b y z) : Dn b x z := by
  induction k with
  | self => exact h
  | kid s hs _ ih => exact .kid s hs ih
end Go.Av.F
end
section
namespace Go.Av.F
open Go Go.Av
set_option linter.unusedSimpArgs false
set_option linter.unusedVariables false
set_option maxRecDepth 100000
attribute [local simp] tt3 tt4 tt9 tt5 tt22 tt25 tt23 tt35 tt33 tt27 tt42 tt54
attribute [local simp] renL_strc take_str
end Go.Av.F
end
section
namespace Go.Av.F
open Go Go.Av
set_option linter.unusedSimpArgs false
set_option linter.unusedVariables false
set_option maxRecDepth 100000
attribute [local simp] tt3 tt4 tt9 tt5 tt22 tt25 tt23 tt35 tt33 tt27 tt42 tt54 tt45 tt47 tt49
structure TR where
  base : List BS
  since : List BO
  sure : Int
def TR.row (t : TR) : List AV := [.lst 11 (t.base.map BS.row), .lst 5 (t.since.map BO.row), .int .i64 t.sure]
def bkRow (b : List BS) : List AV := [.lst 11 (b.map BS.row)]
theorem renL_bkc (ρ : Nat → Option Plc) : (renL ρ ∘ bkRow) = bkRow := by funext x; simp [bkRow]
theorem take_bks (l : List (List BS)) : List.take l.length (l.map bkRow) = l.map bkRow := List.take_of_length_le (by simp)
attribute [local simp] renL_bkc take_bks
theorem op_len (o : BO) : (BO.row o).length = 5 := rfl
theorem op_take (o : BO) : (BO.row o).take 5 = BO.row o := rfl
attribute [local simp] op_len op_take
end Go.Av.F
end
section
namespace Go.Av.F
open Go Go.Av
set_option linter.unusedSimpArgs false
set_option linter.unusedVariables false
set_option maxRecDepth 100000
attribute [local simp] tt3 tt4 tt9 tt5 tt22 tt25 tt23 tt35 tt33 tt27 tt42 tt54 tt45 tt47 tt49 op_len op_take
def opsOb (l : List BO) : Ob := ⟨5, l.map BO.row⟩
theorem ops_sz (l : List BO) : (opsOb l).sz = 5 := rfl
theorem ops_els (l : List BO) : (opsOb l).els = l.map BO.row := rfl
theorem renL_opc (ρ : Nat → Option Plc) : (renL ρ ∘ BO.row) = BO.row := by funext x; simp [BO.row]
theorem take_ops (l : List BO) : List.take l.length (l.map BO.row) = l.map BO.row := List.take_of_length_le (by simp)
attribute [local simp] ops_sz ops_els renL_opc take_ops
def zTr : Ob := ⟨3, [[.nils, .nils, .int .i64 0]]⟩
def tN (bs : List UInt8) (b : List BS) (sure : Int) (q : Int) (i : Int) : S :=
  ⟨mkT [(0, .ptr 1000 0 0), (2, .ptr 2 0 0), (3, .ptr 3 0 0), (4, .ptr 4 0 0), (5, .int .i64 i)], hpOf [(1000, rdOb bs q), (2, zTr), (3, ⟨3, [[.lst 11 (b.map BS.row), .nils, .int .i64 sure]]⟩), (4, ⟨1, [bkRow b]⟩)], Us.of [1000, 1000, 2, 3, 4]⟩
def tC (bs : List UInt8) (b : List BS) (sure : Int) (ops : List BO) (q : Int) (i : Int) : S :=
  ⟨mkT [(0, .ptr 1000 0 0), (2, .ptr 2 0 0), (3, .ptr 3 0 0), (4, .ptr 4 0 0), (5, .int .i64 i)], hpOf [(1000, rdOb bs q), (2, zTr), (3, ⟨3, [[.lst 11 (b.map BS.row), .sl 901 0 ops.length, .int .i64 sure]]⟩), (4, ⟨1, [bkRow b]⟩), (901, opsOb ops)], Us.of [1000, 1000, 2, 3, 4, 901]⟩
def tS (bs : List UInt8) (b : List BS) (sure : Int) (x : Int × Int × List BO) : S := if x.2.2 = [] then tN bs b sure x.2.1 x.1 else tC bs b sure x.2.2 x.2.1 x.1
end Go.Av.F
end
