/- Lemmas for the proof, no statement of the seat; no conditions. -/
import Derived.Test.YtiidedhlnlaalaaDoorLayAH
import Derived.Sort.Walk0
import Derived.Shelf.Small.Strs
import Derived.Below
import Derived.WalkKit
import Derived.Test.YtiidedhlnlaalaaDoorRows
import Derived.Test.YtiidedhlnlaalaaDoorCards
import Derived.ProofKit
import Derived.OpenShut
import Derived.LaidMore
import Derived.Lay
import Derived.SevenTiedAt
import Derived.Stop.Joined
import Derived.Test.YtiidedhlnlaalaaDoorProg
section
namespace Go.Av.F
open Go Go.Av
set_option linter.unusedSimpArgs false
set_option linter.unusedVariables false
set_option maxRecDepth 100000
attribute [local simp] tt3 tt4 tt9 tt5 tt22 tt25 tt23 tt35 tt33
def okPrev (bs : List BS) (i : Nat) (s : BS) : Bool := i == 0 || (match bs[i - 1]? with
  | some q => Op.bytesLess q.name s.name
  | none => true)
def okAt (bs : List BS) (i : Nat) (s : BS) : Bool := nameB s.name && okPrev bs i s && decide (1 ≤ s.kind) && decide (s.kind ≤ 2) && s.bl.all (fun t => decide (t.length ≤ 24))
def okAll (bs : List BS) : Bool := (List.range bs.length).all fun i => match bs[i]? with
  | some s => okAt bs i s
  | none => true
def bookOkB (bs : List BS) : Bool := decide (bs.length ≤ 6) && okAll bs && bs.all (roots bs (bs.length + 1))
theorem okAll_bad (bs : List BS) (i : Nat) (s : BS) (h : bs[i]? = some s) (hb : okAt bs i s = false) : okAll bs = false := by
  unfold okAll
  rw [List.all_eq_false]
  have := (List.getElem?_eq_some_iff.1 h).1
  exact ⟨i, by simpa using this, by simp [h, hb]⟩
theorem row3j (b : BS) (j : Nat) : (BS.row b)[3 + j]? = b.bl[j]?.map .str := by
  rw [show 3 + j = j + 1 + 1 + 1 by omega]; simp [BS.row]
attribute [simp] row3j
theorem bytesLess_leq (a b : List UInt8) : (Op.bytesLess a b || a == b) = !Op.bytesLess b a := by
  simp only [Go.Proofs.bytesLess_eq]
  rcases Std.lt_trichotomy a b with h | h | h
  · have : ¬ b < a := fun h' => Std.lt_irrefl (Std.lt_trans h h')
    simp [h, this]
  · subst h; simp [Std.lt_irrefl]
  · have : ¬ a < b := fun h' => Std.lt_irrefl (Std.lt_trans h h')
    have h2 : a ≠ b := by rintro rfl; exact Std.lt_irrefl h
    simp [h, this, h2]
def short (t : List UInt8) : Bool := decide (t.length ≤ 24)
theorem inner18 {Q : Exit → S → Prop} (bs : List BS) (s : BS) (i : Nat) (h8 : s.bl.length = 8) {st : S} {ob1 : Ob}
    (h0 : ∃ φ, canonOk ⟨78, []⟩ φ st ∧ canon [] [1, 3, 4, 5] φ st = ⟨mkT [(1, .ptr 1 0 0), (3, .int .i64 i), (4, .ptr 4 0 0), (5, .int .i64 0)], hpOf [(1, ob1), (4, ⟨11, [BS.row s]⟩)], Us.of [1, 4]⟩)
    (hr1 : ∀ ρ, renOb ρ ob1 = ob1)
    (hret : ∀ st : S, s.bl.all short = false → st.t 2 = .bool false → Q .ret st)
    (hex : ∀ st : S, s.bl.all short = true → st.t 1 = .ptr 1 0 0 → st.t 3 = .int .i64 i → st.h = hpOf [(1, ob1), (4, ⟨11, [BS.row s]⟩)] → st.u = Us.of [1, 4] → Q (.exit 2) st) :
    ev Go.Proofs.Tryd.prog ⟨78, []⟩ (.loop ac18_l1) Q st := by
  refine ev_loopX (X := Nat) [1, 3, 4, 5] (fun j => ⟨mkT [(1, .ptr 1 0 0), (3, .int .i64 i), (4, .ptr 4 0 0), (5, .int .i64 j)], hpOf [(1, ob1), (4, ⟨11, [BS.row s]⟩)], Us.of [1, 4]⟩) (fun j => 8 - j)
    (fun j => j ≤ 8 ∧ (s.bl.take j).all short = true) 0 ⟨by simp, h0⟩ ?_
  rintro j ⟨hj, ha⟩
  by_cases h1 : j < 8
  · obtain ⟨x, e0⟩ : ∃ x, s.bl[j]'(by omega) = x := ⟨_, rfl⟩
    have e1 : s.bl[j]? = some x := by rw [← e0]; exact List.getElem?_eq_getElem (by omega)
    have e2 : IntKind.i64.wrap ((j : Int) + 1) = ((j + 1 : Nat) : Int) := by rw [i64_in' _ (by omega)]; omega
    have h1' : j < s.bl.length := by omega
    have h1'' : (j : Int) < 8 := by omega
    simp [ac18_l1, h1, h1', h1'', e0, e1, e2, h8]
    refine ⟨by omega, fun h => hret _ ?_ rfl, fun h => ?_⟩
    · rw [List.all_eq_false]; exact ⟨x, List.mem_of_getElem? e1, by simp [short]; omega⟩
    · refine nextX_of (j + 1) (by omega) ⟨by omega, ?_⟩ [(1, 1), (4, 4)] (by simp [canonOk]) (by simp [canon, obOf, hr1])
      have h2 := all_take_succ short s.bl j x e1
      rw [ha, show short x = true by simp [short]; omega] at h2
      simpa using h2
  · have : j = 8 := by omega
    subst this
    rw [List.take_of_length_le (by omega)] at ha
    simp [ac18_l1]
    exact hex _ ha rfl rfl rfl rfl
theorem loop18b {Q : Exit → S → Prop} (bs : List BS) (hl : bs.length < 2000000) (hB : ∀ b ∈ bs, b.bl.length = 8) {st : S}
    (h0 : ∃ φ, canonOk ⟨78, []⟩ φ st ∧ canon [] [1, 6] φ st = ⟨mkT [(1, .ptr 1 0 0), (6, .int .i64 0)], hpOf [(1, ⟨1, [[.lst 11 (bs.map BS.row)]]⟩)], Us.of [1]⟩)
    (hret : ∀ st : S, bs.all (roots bs (bs.length + 1)) = false → st.t 2 = .bool false → Q .ret st)
    (hex : ∀ st : S, bs.all (roots bs (bs.length + 1)) = true → Q (.exit 4) st) : ev Go.Proofs.Tryd.prog ⟨78, []⟩ (.loop ac18_l2) Q st := by
  refine ev_loopX (X := Nat) [1, 6] (fun j => ⟨mkT [(1, .ptr 1 0 0), (6, .int .i64 j)], hpOf [(1, ⟨1, [[.lst 11 (bs.map BS.row)]]⟩)], Us.of [1]⟩) (fun j => bs.length - j)
    (fun j => j ≤ bs.length ∧ (bs.take j).all (roots bs (bs.length + 1)) = true) 0 ⟨by simp, h0⟩ ?_
  rintro j ⟨hj, ha⟩
  by_cases h1 : j < bs.length
  · obtain ⟨x, e0⟩ : ∃ x, bs[j] = x := ⟨_, rfl⟩
    have e1 : bs[j]? = some x := by rw [← e0]; exact List.getElem?_eq_getElem (by omega)
    have e2 : IntKind.i64.wrap ((j : Int) + 1) = ((j + 1 : Nat) : Int) := by rw [i64_in' _ (by omega)]; omega
    have hx := hB x (List.mem_of_getElem? e1)
    simp [ac18_l2, h1, e0, e1, row_len _ hx, row_take _ hx]
    refine callA_val en63 (rootsC bs x hl hB hx) (by simp [bk]) (by simp) ?_
    cases hr : roots bs (bs.length + 1) x with
    | false =>
      simp
      exact hret _ (by rw [List.all_eq_false]; exact ⟨x, List.mem_of_getElem? e1, by simp [hr]⟩) rfl
    | true =>
      simp [e2]
      refine nextX_of (j + 1) (by omega) ⟨by omega, ?_⟩ [(1, 1)] (by simp [canonOk]) (by simp [canon, obOf])
      have h2 := all_take_succ (roots bs (bs.length + 1)) bs j x e1
      rw [ha, hr] at h2
      simpa using h2
  · have : j = bs.length := by omega
    subst this
    rw [List.take_length] at ha
    simp [ac18_l2]
    exact hex _ ha
theorem bookOkC (bs : List BS) (hl : bs.length < 2000000) (hB : ∀ b ∈ bs, b.bl.length = 8) (hs : ∀ b ∈ bs, b.name.length < 1000000000) : ACall Go.Proofs.Tryd.prog 18 [bk bs] [] (fun r L' => r = .bool (bookOkB bs) ∧ L' = []) := by
  obtain ⟨res, hres⟩ : ∃ res, bookOkB bs = res := ⟨_, rfl⟩
  rw [hres]
  by_cases h0 : bs.length ≤ 6
  · have h0' : ¬ (6 : Int) < bs.length := by omega
    have h0'' : (bs.length : Int) ≤ 6 := by omega
    apply vc18 (by simp) (by simp)
    simp [ac18, bk, h0', h0'']
    refine ev_loopX (X := Nat) [1, 3] (fun i => ⟨mkT [(1, .ptr 1 0 0), (3, .int .i64 i)], hpOf [(1, ⟨1, [[.lst 11 (bs.map BS.row)]]⟩)], Us.of [1]⟩) (fun i => bs.length - i)
      (fun i => i ≤ bs.length ∧ ∀ j, j < i → ∀ s, bs[j]? = some s → okAt bs j s = true) 0 ⟨by simp, [(1, 1)], by simp [canonOk], by simp [canon, obOf]⟩ ?_
    rintro i ⟨hi, ha⟩
    by_cases h1 : i < bs.length
    · obtain ⟨s, e0⟩ : ∃ s, bs[i] = s := ⟨_, rfl⟩
      have e1 : bs[i]? = some s := by rw [← e0]; exact List.getElem?_eq_getElem h1
      have hsm : s ∈ bs := List.mem_of_getElem? e1
      have e2 : IntKind.i64.wrap ((i : Int) + 1) = ((i + 1 : Nat) : Int) := by rw [i64_in' _ (by omega)]; omega
      have hbad : okAt bs i s = false → res = false := fun h => by rw [← hres, bookOkB, okAll_bad bs i s e1 h]; simp
      simp [ac18_l0, h1, e0, e1, row_len _ (hB s hsm), row_take _ (hB s hsm)]
      refine ⟨row_all s, callA_val en62 (bookName s.name (by have := hs s hsm; omega)) (by simp) (by simp) ?_⟩
      cases hn : nameB s.name with
      | false => simp [hbad (by simp [okAt, hn])]
      | true =>
        have hpv : okPrev bs i s = false → res = false := fun h => hbad (by simp [okAt, h])
        have next : okAt bs i s = true → ∀ j, j < i + 1 → ∀ s, bs[j]? = some s → okAt bs j s = true := fun hok j hj y hy => by
          by_cases hji : j = i
          · subst hji; rw [e1] at hy; injection hy with hy; subst hy; exact hok
          · exact ha j (by omega) y hy
        have fin : ∀ (h : okPrev bs i s = true) (h1 : 1 ≤ s.kind) (h2 : s.kind ≤ 2), s.bl.all short = true → okAt bs i s = true := fun h h1 h2 h3 => by
          have h4 : (s.bl.all fun t => decide (t.length ≤ 24)) = true := h3
          simp [okAt, hn, h, h1, h2, h4]
        have finF : s.bl.all short = false → okAt bs i s = false := fun h3 => by
          have h4 : (s.bl.all fun t => decide (t.length ≤ 24)) = false := h3
          simp [okAt, h4]
        have hk1 : s.kind < 1 → res = false := fun h => hbad (by simp [okAt, show ¬ 1 ≤ s.kind by omega])
        have hk2 : 2 < s.kind → res = false := fun h => hbad (by simp [okAt, show ¬ s.kind ≤ 2 by omega])
        by_cases hi0 : i = 0
        · subst hi0
          simp
          refine ⟨fun g1 => ⟨hk2, fun g2 => inner18 bs s 0 (hB s hsm) (ob1 := ⟨1, [[.lst 11 (bs.map BS.row)]]⟩) ⟨[(1, 1), (4, 4)], by simp [canonOk], by simp [canon, obOf]⟩ (by simp) (fun st g3 g4 => ?_) (fun st g3 t1 t3 th tu => ?_)⟩, fun g1 => hk1 (by omega)⟩
          · simp [g4, hbad (finF g3)]
          · simp [t1, t3, show IntKind.i64.wrap 1 = 1 from rfl]
            exact nextX_of 1 (by omega) ⟨by omega, next (fin (by simp [okPrev]) g1 g2 g3)⟩ [(1, 1)] (by simp [canonOk, th]) (by simp [canon, obOf, th, t1])
        · obtain ⟨m, hm⟩ : ∃ m, i = m + 1 := ⟨i - 1, by omega⟩
          subst hm
          obtain ⟨q, q0⟩ : ∃ q, bs[m] = q := ⟨_, rfl⟩
          have q1 : bs[m]? = some q := by rw [← q0]; exact List.getElem?_eq_getElem (by omega)
          have q2 : IntKind.i64.wrap (m : Int) = (m : Int) := by rw [i64_in' _ (by omega)]
          have q3 : m < bs.length := by omega
          have q4 := row_len q (hB q (List.mem_of_getElem? q1))
          cases hq : Op.bytesLess q.name s.name with
          | false =>
            have hrf : res = false := hpv (by simp [okPrev, q1, hq])
            have : (Op.bytesLess s.name q.name || s.name == q.name) = true := by rw [bytesLess_leq, hq]; rfl
            simp [q0, q1, q2, q3, this, hrf, q4]
          | true =>
            have : (Op.bytesLess s.name q.name || s.name == q.name) = false := by rw [bytesLess_leq, hq]; rfl
            simp [q0, q1, q2, q3, this, q4]
            refine ⟨fun g1 => ⟨hk2, fun g2 => inner18 bs s (m + 1) (hB s hsm) (ob1 := ⟨1, [[.lst 11 (bs.map BS.row)]]⟩) ⟨[(1, 1), (4, 4)], by simp [canonOk], by simp [canon, obOf]⟩ (by simp) (fun st g3 g4 => ?_) (fun st g3 t1 t3 th tu => ?_)⟩, fun g1 => hk1 (by omega)⟩
            · simp [g4, hbad (finF g3)]
            · have e2' : IntKind.i64.wrap ((m : Int) + 1 + 1) = (m : Int) + 1 + 1 := i64_in' _ (by omega)
              simp [t1, t3, e2']
              exact nextX_of (m + 1 + 1) (by omega) ⟨by omega, next (fin (by simp [okPrev, q1, hq]) g1 g2 g3)⟩ [(1, 1)] (by simp [canonOk, th]) (by simp [canon, obOf, th, t1])
    · have hie : i = bs.length := by omega
      subst hie
      have hok : okAll bs = true := by
        unfold okAll
        rw [List.all_eq_true]
        intro j hj
        have hj' : j < bs.length := by simpa using hj
        have hx : bs[j]? = some bs[j] := List.getElem?_eq_getElem hj'
        rw [hx]; exact ha j hj' _ hx
      simp [ac18_l0]
      refine loop18b bs hl hB ⟨[(1, 1)], by simp [canonOk], by simp [canon, obOf]⟩ (fun st g1 g2 => ?_) (fun st g1 => ?_)
      · have : res = false := by rw [← hres]; simp [bookOkB, g1]
        simp [g2, this]
      · have : res = true := by
          rw [← hres]
          simp only [bookOkB, g1, hok, Bool.and_true, decide_eq_true_eq]; exact h0
        simp [this]
  · have : res = false := by rw [← hres]; simp [bookOkB, h0]
    have h0' : (6 : Int) < bs.length := by omega
    apply vc18 (by simp) (by simp)
    simp [ac18, bk, h0', this]
end Go.Av.F
end
section
namespace Go.Av.F
open Go Go.Av
set_option linter.unusedSimpArgs false
set_option linter.unusedVariables false
set_option maxRecDepth 100000
attribute [local simp] tt3 tt4 tt9 tt5 tt22 tt25 tt23 tt35 tt33
def bkOb (bs : List BS) : Ob := ⟨11, bs.map BS.row⟩
@[simp] theorem bkOb_sz (bs : List BS) : (bkOb bs).sz = 11 := rfl
@[simp] theorem bkOb_els (bs : List BS) : (bkOb bs).els = bs.map BS.row := rfl
theorem clR_bk (bs : List BS) : clR (bs.map BS.row) = true := by simp [clR]
attribute [simp] clR_bk
@[simp] theorem bkOb_ren (ρ : Nat → Option Plc) (bs : List BS) : renOb ρ (bkOb bs) = bkOb bs := by
  simp [renOb, bkOb]
theorem bk_take (bs : List BS) : (bs.map BS.row).take bs.length = bs.map BS.row := List.take_of_length_le (by simp)
attribute [simp] bk_take
end Go.Av.F
end
section
namespace Go.Av.F
open Go Go.Av
set_option linter.unusedSimpArgs false
set_option linter.unusedVariables false
set_option maxRecDepth 100000
attribute [local simp] tt3 tt4 tt9 tt5 tt22 tt25 tt23 tt35 tt33 tt27
structure BO where
  kind : Int
  a : List UInt8
  b : List UInt8
  i : Int
  text : List UInt8
deriving DecidableEq, Inhabited
def BO.row (o : BO) : List AV := [.int .i64 o.kind, .str o.a, .str o.b, .int .i64 o.i, .str o.text]
end Go.Av.F
end
section
namespace Go.Av.F
open Go Go.Av
set_option linter.unusedSimpArgs false
set_option linter.unusedVariables false
set_option maxRecDepth 100000
attribute [local simp] tt3 tt4 tt9 tt5 tt22 tt25 tt23 tt35 tt33 tt27
theorem atB_some {bs : List BS} {name : List UInt8} (h : atB bs name = true) : ∃ u, bs[atP bs name]? = some u ∧ u.name = name := by
  unfold atB at h
  split at h
  · rename_i u hu; exact ⟨u, hu, by simpa using h⟩
  · cases h
end Go.Av.F
end
section
namespace Go.Av.F
open Go Go.Av
set_option linter.unusedSimpArgs false
set_option linter.unusedVariables false
set_option maxRecDepth 100000
attribute [local simp] tt3 tt4 tt9 tt5 tt22 tt25 tt23 tt35 tt33 tt27
end Go.Av.F
end
section
namespace Go.Av.F
open Go Go.Av
set_option linter.unusedSimpArgs false
set_option linter.unusedVariables false
set_option maxRecDepth 100000
attribute [local simp] tt3 tt4 tt9 tt5 tt22 tt25 tt23 tt35 tt33 tt27
end Go.Av.F
end
section
namespace Go.Av.F
open Go Go.Av
set_option linter.unusedSimpArgs false
set_option linter.unusedVariables false
set_option maxRecDepth 100000
attribute [local simp] tt3 tt4 tt9 tt5 tt22 tt25 tt23 tt35 tt33 tt27 tt205
theorem withinC (a b c : Int) : ACall Go.Proofs.Tryd.prog 76 [.int .i64 a, .int .i64 b, .int .i64 c] [] (fun x L' => x = .bool (decide (b ≤ a) && decide (a ≤ c)) ∧ L' = []) := by
  apply vc76 (by simp) (by simp)
  simp [ac76]
  constructor
  · intros; omega
  · intros; omega
def Srt (bs : List BS) : Prop := ∀ (i j : Nat) (a b : BS), i < j → bs[i]? = some a → bs[j]? = some b → Op.bytesLess a.name b.name = true
theorem bl_trans {a b c : List UInt8} (h1 : Op.bytesLess a b = true) (h2 : Op.bytesLess b c = true) : Op.bytesLess a c = true := by
  simp only [Go.Proofs.bytesLess_eq, decide_eq_true_eq] at *
  exact Std.lt_trans h1 h2
end Go.Av.F
end
section
namespace Go.Av.F
open Go Go.Av
set_option linter.unusedSimpArgs false
set_option linter.unusedVariables false
set_option maxRecDepth 100000
attribute [local simp] tt3 tt4 tt9 tt5 tt22 tt25 tt23 tt35 tt33 tt27 tt205
def idxB (p : BS → Bool) (bs : List BS) : Int := match bs.findIdx? p with
  | some i => i
  | none => -1
@[simp] theorem mtL_row (hv : Hp) (ids : List Nat) (ρ : Nat → Option Plc) (b : BS) : mtL hv ids ρ (BS.row b) (BS.row b) := mtL_cl _ (row_cl b)
theorem idx_step (p : BS → Bool) : ∀ (bs : List BS) (i : Nat) (s : BS), (∀ j, j < i → ∀ y, bs[j]? = some y → p y = false) → bs[i]? = some s → p s = true → bs.findIdx? p = some i
  | [], i, s, _, h, _ => by simp at h
  | a :: r, 0, s, _, h, hp => by
    simp only [List.getElem?_cons_zero, Option.some.injEq] at h
    subst h; simp [List.findIdx?_cons, hp]
  | a :: r, i + 1, s, hb, h, hp => by
    have h0 : p a = false := hb 0 (by omega) a (by simp)
    have := idx_step p r i s (fun j hj y hy => hb (j + 1) (by omega) y (by simpa using hy)) (by simpa using h) hp
    simp [List.findIdx?_cons, h0, this]
theorem idxC (p : BS → Bool) (g : Nat) (o : Ob) (bs : List BS) (hl : bs.length < 2000000) (hB : ∀ b ∈ bs, b.bl.length = 8) (ho : ∀ ρ, renOb ρ o = o) (hc : clR o.els = true) (en : enters Go.Proofs.Tryd.prog g = true)
    (hg : ∀ s ∈ bs, ACall Go.Proofs.Tryd.prog g [.agg (BS.row s), .ptr 1000 0 0] [(1000, o)] (fun r L' => r = .bool (p s) ∧ L' = [(1000, o)])) :
    ACall Go.Proofs.Tryd.prog 134 [.lst 11 (bs.map BS.row), .fn g [.ptr 1000 0 0]] [(1000, o)] (fun r L' => r = .int .i64 (idxB p bs) ∧ L' = [(1000, o)]) := by
  apply vc134 (by simp) (by simp)
  simp [ac134]
  refine ev_loopX (X := Nat) [0, 1, 7, 8] (fun i => ⟨mkT [(0, .lst 11 (bs.map BS.row)), (1, .fn g [.ptr 1000 0 0]), (7, .int .i64 bs.length), (8, .int .i64 i)], hpOf [(1000, o)], Us.of [1000, 1000]⟩) (fun i => bs.length - i)
    (fun i => i ≤ bs.length ∧ ∀ j, j < i → ∀ y, bs[j]? = some y → p y = false) 0 ⟨by simp, [(1000, 1000)], by simp [canonOk], by simp [canon, obOf, ho]⟩ ?_
  rintro i ⟨hi, ha⟩
  by_cases h1 : i < bs.length
  · obtain ⟨s, e0⟩ : ∃ s, bs[i] = s := ⟨_, rfl⟩
    have e1 : bs[i]? = some s := by rw [← e0]; exact List.getElem?_eq_getElem h1
    have hsm := List.mem_of_getElem? e1
    have hs := hB s hsm
    have e2 : IntKind.i64.wrap ((i : Int) + 1) = ((i + 1 : Nat) : Int) := by rw [i64_in' _ (by omega)]; omega
    simp [ac134_l0, h1, e0, e1, row_len _ hs, row_take _ hs]
    refine callA_wh [(1000, .whole 1000)] en (hg s hsm) (by simp) (by simp) (by simp; exact rowsMt_cl rfl hc) (by simp) (by simp) ?_
    rintro r L' ⟨rfl, rfl⟩
    refine ⟨[], ⟨by simp, by simp, by simp, by simp, by simp⟩, ?_⟩
    cases hp : p s with
    | true =>
      have := idx_step p bs i s ha e1 hp
      simp [ho, idxB, this]
    | false =>
      simp [ho, e2]
      refine nextX_of (i + 1) (by omega) ⟨by omega, fun j hj y hy => ?_⟩ [(1000, 1000)] (by simp [canonOk]) (by simp [canon, obOf, ho])
      by_cases hji : j = i
      · subst hji; rw [e1] at hy; injection hy with hy; subst hy; exact hp
      · exact ha j (by omega) y hy
  · have hie : i = bs.length := by omega
    have : bs.findIdx? p = none := by
      rw [List.findIdx?_eq_none_iff]
      intro x hx
      obtain ⟨j, hj, e⟩ := List.mem_iff_getElem.1 hx
      exact ha j (by omega) x (by rw [← e]; exact List.getElem?_eq_getElem hj)
    subst hie
    simp [ac134_l0, idxB, this]
end Go.Av.F
end
section
namespace Go.Av.F
open Go Go.Av
set_option linter.unusedSimpArgs false
set_option linter.unusedVariables false
set_option maxRecDepth 100000
attribute [local simp] tt3 tt4 tt9 tt5 tt22 tt25 tt23 tt35 tt33 tt27 tt205
def sOb (s : BS) : Ob := ⟨11, [BS.row s]⟩
@[simp] theorem sOb_ren (ρ : Nat → Option Plc) (s : BS) : renOb ρ (sOb s) = sOb s := by simp [sOb]
theorem sOb_cl (s : BS) : clR (sOb s).els = true := by simp [sOb, clR]
theorem leadsFC (s x : BS) (hs : s.bl.length = 8) (hx : x.bl.length = 8) : ACall Go.Proofs.Tryd.prog 135 [.agg (BS.row x), .ptr 1000 0 0] [(1000, sOb s)] (fun r L' => r = .bool (x.name == s.frm) ∧ L' = [(1000, sOb s)]) := by
  apply vc135 (by simp) (by simp)
  simp [ac135, sOb, row_len _ hs, row_len _ hx]
def leadsB (bs : List BS) : Nat → BS → Bool
  | 0, _ => false
  | n + 1, s => if s.frm = [] then s.kind == 1 else
      match bs.findIdx? (fun x => x.name == s.frm) with
      | some j => match bs[j]? with
        | some t => if t.kind = s.kind then false else leadsB bs n t
        | none => false
      | none => false
theorem leadsC (bs : List BS) (s : BS) (hl : bs.length < 2000000) (hB : ∀ b ∈ bs, b.bl.length = 8) (hs : s.bl.length = 8) : ACall Go.Proofs.Tryd.prog 72 [bk bs, .agg (BS.row s)] [] (fun r L' => r = .bool (leadsB bs bs.length s) ∧ L' = []) := by
  obtain ⟨res, hres⟩ : ∃ res, leadsB bs bs.length s = res := ⟨_, rfl⟩
  rw [hres]
  apply vc72 (by simp) (by simp)
  simp [ac72, bk, row_len _ hs]
  refine ev_loopX (X := Nat × BS) [2, 3, 8, 9] (fun x => ⟨mkT [(2, .ptr 2 0 0), (3, .ptr 3 0 0), (8, .int .i64 bs.length), (9, .int .i64 x.1)], hpOf [(2, ⟨1, [[.lst 11 (bs.map BS.row)]]⟩), (3, sOb x.2)], Us.of [2, 3]⟩) (fun x => bs.length - x.1)
    (fun x => x.1 ≤ bs.length ∧ x.2.bl.length = 8 ∧ res = leadsB bs (bs.length - x.1) x.2) (0, s) ⟨⟨by simp, hs, hres.symm⟩, [(2, 2), (3, 3)], by simp [canonOk], by simp [canon, obOf, sOb]⟩ ?_
  rintro ⟨i, t⟩ ⟨hi, ht, he⟩
  simp only at hi ht he
  by_cases h1 : i < bs.length
  · obtain ⟨n, hn⟩ : ∃ n, bs.length - i = n + 1 := ⟨bs.length - i - 1, by omega⟩
    have e2 : IntKind.i64.wrap ((i : Int) + 1) = ((i + 1 : Nat) : Int) := by rw [i64_in' _ (by omega)]; omega
    rw [hn] at he
    by_cases h2 : t.frm = []
    · simp [ac72_l0, h1, h2, he, leadsB, sOb]
    · simp [ac72_l0, h1, h2, sOb]
      refine callA_wh [(1000, .whole 3)] en134 (idxC (fun x => x.name == t.frm) 135 (sOb t) bs hl hB (fun ρ => sOb_ren ρ t) (sOb_cl t) en135 (fun x hx => leadsFC t x ht (hB x hx))) (by simp) (by simp) (by simp; exact ⟨rfl, rowsMt_cl rfl (by simp [clR])⟩) (by simp) (by simp) ?_
      rintro r L' ⟨rfl, rfl⟩
      refine ⟨[], ⟨by simp, by simp, by simp, by simp, by simp⟩, ?_⟩
      cases hf : bs.findIdx? (fun x => x.name == t.frm) with
      | none =>
        have : res = false := by rw [he]; simp [leadsB, h2, hf]
        simp [idxB, hf, this]
      | some j =>
        have hjl : j < bs.length := (List.findIdx?_eq_some_iff_findIdx_eq.1 hf).1
        obtain ⟨u, e0⟩ : ∃ u, bs[j] = u := ⟨_, rfl⟩
        have e1 : bs[j]? = some u := by rw [← e0]; exact List.getElem?_eq_getElem hjl
        have hu := hB u (List.mem_of_getElem? e1)
        by_cases h4 : u.kind = t.kind
        · have : res = false := by rw [he]; simp [leadsB, h2, hf, e1, h4]
          simp [idxB, hf, hjl, e0, e1, h4, this, row_len _ hu, row_len _ ht, sOb]
        · have e5 : res = leadsB bs n u := by rw [he]; simp [leadsB, h2, hf, e1, h4]
          simp [idxB, hf, hjl, e0, e1, h4, row_len _ hu, row_len _ ht, row_take _ hu, row_drop _ ht, e2, sOb]
          refine ⟨⟨row_all u, ?_⟩, fun h => by omega⟩
          refine nextX_of (i + 1, u) (by simp only; omega) ⟨by simp only; omega, hu, ?_⟩ [(2, 2), (3, 3)] (by simp [canonOk]) (by simp [canon, obOf, sOb])
          simp only; rw [e5]; congr 1; omega
  · have : res = false := by rw [he, show bs.length - i = 0 by omega]; rfl
    simp [ac72_l0, h1, this]
end Go.Av.F
end
section
namespace Go.Av.F
open Go Go.Av
set_option linter.unusedSimpArgs false
set_option linter.unusedVariables false
set_option maxRecDepth 100000
attribute [local simp] tt3 tt4 tt9 tt5 tt22 tt208 tt212
def setL (l : List UInt8) : List AV := (List.range 256).map fun i => .bool (l.any fun c => c.toNat == i)
@[simp] theorem setL_len (l : List UInt8) : (setL l).length = 256 := by simp [setL]
theorem setL_nil : setL [] = List.replicate 256 (.bool false) := by
  rw [List.eq_replicate_iff]
  refine ⟨setL_len _, fun x hx => ?_⟩
  simp only [setL, List.mem_map] at hx
  obtain ⟨_, _, rfl⟩ := hx
  rfl
theorem setL_get (l : List UInt8) (c : UInt8) : (setL l)[c.toNat]? = some (.bool (l.any fun d => d == c)) := by
  have hc : c.toNat < 256 := c.toNat_lt
  have : ∀ d : UInt8, (d.toNat == c.toNat) = (d == c) := fun d => by
    by_cases h : d = c
    · simp [h]
    · have : d.toNat ≠ c.toNat := fun e => h (UInt8.toNat_inj.1 e)
      rw [beq_false_of_ne h, beq_false_of_ne this]
  simp [setL, hc, this]
theorem setL_clL : ∀ l, clL (setL l) = true := fun l => by
  have : ∀ (m : List Nat) (f : Nat → Bool), clL (m.map fun i => AV.bool (f i)) = true := fun m f => by induction m <;> simp_all
  exact this _ _
def setOb (l : List UInt8) : Ob := ⟨256, [setL l]⟩
theorem setL_ren (ρ : Nat → Option Plc) (l : List UInt8) : renL ρ (setL l) = setL l := by
  have : ∀ (m : List Nat) (f : Nat → Bool), renL ρ (m.map fun i => AV.bool (f i)) = m.map fun i => AV.bool (f i) := fun m f => by induction m <;> simp_all
  exact this _ _
@[simp] theorem setOb_ren (ρ : Nat → Option Plc) (l : List UInt8) : renOb ρ (setOb l) = setOb l := by simp [setOb, setL_ren]
theorem containsC (l : List UInt8) (c : UInt8) : ACall Go.Proofs.Tryd.prog 216 [.ptr 1000 0 0, .int .u8 c.toNat] [(1000, setOb l)] (fun r L' => r = .bool (l.any fun d => d == c) ∧ L' = [(1000, setOb l)]) := by
  have hc : c.toNat < 256 := c.toNat_lt
  apply vc216 (by simp) (by simp)
  have hg : (setL l)[c.toNat]'(by rw [setL_len]; exact hc) = .bool (l.any fun d => d == c) := by
    have := setL_get l c
    rw [List.getElem?_eq_getElem (by rw [setL_len]; exact hc)] at this
    injection this
  simp [ac216, setOb, setL_get, hc, hg]
  omega
theorem setL_put (l : List UInt8) (c : UInt8) : (setL l).set c.toNat (.bool true) = setL (l ++ [c]) := by
  apply List.ext_getElem
  · simp
  · intro i h1 h2
    have hi : i < 256 := by simpa using h2
    rw [List.getElem_set]
    by_cases h : c.toNat = i
    · subst h; simp [setL]
    · have : (c.toNat == i) = false := beq_false_of_ne h
      simp [setL, h, this]
theorem asciiC (cs : List UInt8) (hl : cs.length < 2000000) (hc : ∀ c ∈ cs, c.toNat < 128) : ACall Go.Proofs.Tryd.prog 181 [.str cs] [] (fun r L' => r = .tup [.agg (setL cs), .bool true] ∧ L' = []) := by
  apply vc181 (by simp) (by simp)
  have hz := setL_nil
  simp [ac181, ← hz]
  refine ev_loopX (X := Nat) [0, 2, 4] (fun i => ⟨mkT [(0, .str cs), (2, .ptr 2 0 0), (4, .int .i64 i)], hpOf [(2, setOb (cs.take i))], Us.of [2]⟩) (fun i => cs.length - i) (fun i => i ≤ cs.length) 0 ⟨by simp, [(2, 2)], by simp [canonOk], by simp [canon, obOf, setOb, setL_ren]⟩ ?_
  intro i hi
  by_cases h1 : i < cs.length
  · obtain ⟨x, e0⟩ : ∃ x, cs[i] = x := ⟨_, rfl⟩
    have e1 : cs[i]? = some x := by rw [← e0]; exact List.getElem?_eq_getElem h1
    have hx := hc x (List.mem_of_getElem? e1)
    have e2 : IntKind.i64.wrap ((i : Int) + 1) = ((i + 1 : Nat) : Int) := by rw [i64_in' _ (by omega)]; omega
    have hx' : ¬ (128 : Int) ≤ x.toNat := by omega
    have f1 : List.take x.toNat (setL (cs.take i)) ++ AV.bool true :: List.drop (x.toNat + 1) (setL (cs.take i)) = setL (cs.take (i + 1)) := by
      have := setL_put (cs.take i) x
      rw [List.set_eq_take_append_cons_drop, if_pos (by rw [setL_len]; omega)] at this
      rw [this, List.take_add_one, e1]; rfl
    simp [ac181_l0, h1, e0, e1, e2, hx', setOb, f1]
    refine ⟨by omega, by omega, ?_⟩
    exact nextX_of (i + 1) (by omega) (by omega) [(2, 2)] (by simp [canonOk]) (by simp [canon, obOf, setOb, setL_ren])
  · have : i = cs.length := by omega
    subst this
    have f2 : List.take 256 (setL cs) = setL cs := List.take_of_length_le (by simp)
    simp [ac181_l0, setOb, f2]
    intro x hx
    simp only [setL, List.mem_map] at hx
    obtain ⟨_, _, rfl⟩ := hx
    rfl
end Go.Av.F
end
section
namespace Go.Av.F
open Go Go.Av
set_option linter.unusedSimpArgs false
set_option linter.unusedVariables false
set_option maxRecDepth 100000
attribute [local simp] tt3 tt4 tt9 tt5 tt22 tt208 tt212
def inS (l : List UInt8) (c : UInt8) : Bool := l.any fun d => d == c
theorem setOb_cl (l : List UInt8) : clR (setOb l).els = true := by simp [setOb, clR, setL_clL]
theorem trimLC (l s : List UInt8) (hl : s.length < 2000000) : ACall Go.Proofs.Tryd.prog 182 [.str s, .ptr 1000 0 0] [(1000, setOb l)] (fun r L' => r = .str (s.dropWhile (inS l)) ∧ L' = [(1000, setOb l)]) := by
  obtain ⟨res, hres⟩ : ∃ res, s.dropWhile (inS l) = res := ⟨_, rfl⟩
  rw [hres]
  apply vc182 (by simp) (by simp)
  simp [ac182]
  refine ev_loopX (X := List UInt8) [0, 1] (fun t => ⟨mkT [(0, .str t), (1, .ptr 1000 0 0)], hpOf [(1000, setOb l)], Us.of [1000, 1000]⟩) (fun t => t.length) (fun t => t.length < 2000000 ∧ t.dropWhile (inS l) = res) s ⟨⟨hl, hres⟩, [(1000, 1000)], by simp [canonOk], by simp [canon, obOf]⟩ ?_
  rintro t ⟨ht, he⟩
  cases t with
  | nil =>
    simp [ac182_l0]
    simpa using he
  | cons c t =>
    simp [ac182_l0]
    refine callA_wh [(1000, .whole 1000)] en216 (containsC l c) (by simp) (by simp) (by simp; exact rowsMt_cl rfl (setOb_cl l)) (by simp) (by simp) ?_
    rintro r L' ⟨rfl, rfl⟩
    refine ⟨[], ⟨by simp, by simp, by simp, by simp, by simp⟩, ?_⟩
    have hd : (l.any fun d => d == c) = inS l c := rfl
    rw [hd]
    cases hc : inS l c with
    | true =>
      have he' : t.dropWhile (inS l) = res := by rw [← he]; simp [List.dropWhile, hc]
      simp
      refine nextX_of t (by simp) ⟨by simp at ht; omega, he'⟩ [(1000, 1000)] (by simp [canonOk]) (by simp [canon, obOf])
    | false =>
      have he' : c :: t = res := by rw [← he]; simp [List.dropWhile, hc]
      simp [he']
theorem trimRC (l s : List UInt8) (hl : s.length < 2000000) : ACall Go.Proofs.Tryd.prog 183 [.str s, .ptr 1000 0 0] [(1000, setOb l)] (fun r L' => r = .str (s.reverse.dropWhile (inS l)).reverse ∧ L' = [(1000, setOb l)]) := by
  obtain ⟨res, hres⟩ : ∃ res, (s.reverse.dropWhile (inS l)).reverse = res := ⟨_, rfl⟩
  rw [hres]
  apply vc183 (by simp) (by simp)
  simp [ac183]
  refine ev_loopX (X := List UInt8) [0, 1] (fun t => ⟨mkT [(0, .str t), (1, .ptr 1000 0 0)], hpOf [(1000, setOb l)], Us.of [1000, 1000]⟩) (fun t => t.length) (fun t => t.length < 2000000 ∧ (t.reverse.dropWhile (inS l)).reverse = res) s ⟨⟨hl, hres⟩, [(1000, 1000)], by simp [canonOk], by simp [canon, obOf]⟩ ?_
  rintro t ⟨ht, he⟩
  rcases List.eq_nil_or_concat t with rfl | ⟨u, c, rfl⟩
  · simp [ac183_l0]
    simpa using he
  · simp only [List.concat_eq_append] at *
    have hul : u.length < 2000000 := by simp at ht; omega
    have e1 : IntKind.i64.wrap ((u.length : Int) + 1 - 1) = (u.length : Int) := by rw [i64_in' _ (by omega)]; omega
    have e2 : IntKind.i64.wrap (u.length : Int) = (u.length : Int) := i64_in' _ (by omega)
    have e3 : (u ++ [c])[u.length]? = some c := by simp
    simp [ac183_l0, e1, e2, e3]
    refine ⟨by omega, ?_⟩
    refine callA_wh [(1000, .whole 1000)] en216 (containsC l c) (by simp) (by simp) (by simp; exact rowsMt_cl rfl (setOb_cl l)) (by simp) (by simp) ?_
    rintro r L' ⟨rfl, rfl⟩
    refine ⟨[], ⟨by simp, by simp, by simp, by simp, by simp⟩, ?_⟩
    have hd : (l.any fun d => d == c) = inS l c := rfl
    rw [hd]
    cases hc : inS l c with
    | true =>
      have he' : (u.reverse.dropWhile (inS l)).reverse = res := by rw [← he]; simp [List.dropWhile, hc]
      simp [e1, e2]
      exact nextX_of u (by simp) ⟨hul, he'⟩ [(1000, 1000)] (by simp [canonOk]) (by simp [canon, obOf])
    | false =>
      have he' : u ++ [c] = res := by rw [← he]; simp [List.dropWhile, hc]
      simp [he']
end Go.Av.F
end
section
namespace Go.Av.F
open Go Go.Av
set_option linter.unusedSimpArgs false
set_option linter.unusedVariables false
set_option maxRecDepth 100000
attribute [local simp] tt3 tt4 tt9 tt5 tt22 tt208 tt212
def stripS (l s : List UInt8) : List UInt8 := ((s.reverse.dropWhile (inS l)).reverse).dropWhile (inS l)
theorem trimC (s cs : List UInt8) (hl : s.length < 2000000) (hs : s ≠ []) (hcl : 2 ≤ cs.length) (hcl2 : cs.length < 2000000) (hc : ∀ c ∈ cs, c.toNat < 128) :
    ACall Go.Proofs.Tryd.prog 132 [.str s, .str cs] [] (fun r L' => r = .str (stripS cs s) ∧ L' = []) := by
  have h1 : cs ≠ [] := by rintro rfl; simp at hcl
  have h2 : ¬ cs.length = 1 := by omega
  have h2' : ¬ (cs.length : Int) = 1 := by omega
  have hz := setL_nil
  apply vc132 (by simp) (by simp)
  simp [ac132, hs, h1, h2, h2', ← hz]
  refine callA_val en181 (asciiC cs hcl2 hc) (by simp) (by simp [setL_clL]) ?_
  simp
  refine ⟨fun x hx => ?_, ?_⟩
  · simp only [setL, List.mem_map] at hx
    obtain ⟨_, _, rfl⟩ := hx
    rfl
  refine callA_wh [(1000, .whole 5)] en183 (trimRC cs s hl) (by simp) (by simp) (by simp; exact ⟨rfl, rowsMt_cl rfl (by simp [clR, setL_clL])⟩) (by simp) (by simp) ?_
  rintro r L' ⟨rfl, rfl⟩
  refine ⟨[], ⟨by simp, by simp, by simp, by simp, by simp⟩, ?_⟩
  simp
  have hl2 : ((s.reverse.dropWhile (inS cs)).reverse).length < 2000000 := by
    have := (List.dropWhile_sublist (inS cs) (l := s.reverse)).length_le
    simp at this ⊢; omega
  refine callA_wh [(1000, .whole 5)] en182 (trimLC cs _ hl2) (by simp) (by simp) (by simp; exact rowsMt_cl rfl (setOb_cl cs)) (by simp) (by simp) ?_
  rintro r L' ⟨rfl, rfl⟩
  refine ⟨[], ⟨by simp, by simp, by simp, by simp, by simp⟩, ?_⟩
  simp [stripS]
end Go.Av.F
end
section
namespace Go.Av.F
open Go Go.Av
set_option linter.unusedSimpArgs false
set_option linter.unusedVariables false
set_option maxRecDepth 100000
attribute [local simp] tt3 tt4 tt9 tt5 tt22 tt208 tt212
def abc : List UInt8 := [97, 98, 99, 100, 101, 102, 103, 104, 105, 106, 107, 108, 109, 110, 111, 112, 113, 114, 115, 116, 117, 118, 119, 120, 121, 122]
theorem dropWhile_nil_iff {α : Type} (p : α → Bool) : ∀ l : List α, l.dropWhile p = [] ↔ l.all p = true
  | [] => by simp
  | a :: r => by
    cases h : p a <;> simp [List.dropWhile, h, dropWhile_nil_iff p r]
theorem dropWhile_head {α : Type} (p : α → Bool) : ∀ (l : List α) (a : α) (r : List α), l.dropWhile p = a :: r → p a = false
  | [], a, r, h => by simp at h
  | b :: l, a, r, h => by
    cases hb : p b with
    | true => simp [List.dropWhile, hb] at h; exact dropWhile_head p l a r h
    | false => simp [List.dropWhile, hb] at h; rw [← h.1]; exact hb
theorem strip_nil (l s : List UInt8) : stripS l s = [] ↔ s.all (inS l) = true := by
  unfold stripS
  constructor
  · intro h
    by_cases h2 : (s.reverse.dropWhile (inS l)) = []
    · have := (dropWhile_nil_iff _ _).1 h2
      simpa using this
    · exfalso
      have h3 := (dropWhile_nil_iff _ _).1 h
      cases h4 : s.reverse.dropWhile (inS l) with
      | nil => exact h2 h4
      | cons a r =>
        have h5 := dropWhile_head _ _ _ _ h4
        rw [h4] at h3
        simp [h5] at h3
  · intro h
    have h2 : s.reverse.dropWhile (inS l) = [] := (dropWhile_nil_iff _ _).2 (by simpa using h)
    rw [h2]; rfl
theorem inS_abc (c : UInt8) : inS abc c = lowB c := by
  have : ∀ n : Fin 256, inS abc (UInt8.ofNat n) = lowB (UInt8.ofNat n) := by decide
  have h := this ⟨c.toNat, c.toNat_lt⟩
  simpa using h
theorem ibookName (s : List UInt8) (hs : s.length < 2000000) : ACall Go.Proofs.Tryd.prog 67 [.str s] [] (fun r L' => r = .bool (nameB s) ∧ L' = []) := by
  apply vc67 (by simp) (by simp)
  simp [ac67]
  refine callA_val en76 (withinC s.length 1 6) (by simp) (by simp) ?_
  have hall : s.all (inS abc) = s.all lowB := by congr 1; funext c; exact inS_abc c
  by_cases h1 : 1 ≤ s.length ∧ s.length ≤ 6
  · have h2 : s ≠ [] := by rintro rfl; simp at h1
    have h3 : (decide ((1 : Int) ≤ s.length) && decide ((s.length : Int) ≤ 6)) = true := by simp; omega
    rw [h3]
    simp
    refine callA_val en132 (trimC s abc hs h2 (by simp [abc]) (by simp [abc]) (by decide)) (by simp) (by simp) ?_
    have h4 : (stripS abc s == []) = nameB s := by
      have h5 : (stripS abc s == []) = s.all lowB := by
        cases h6 : s.all lowB with
        | true => rw [(strip_nil abc s).2 (by rw [hall]; exact h6)]; rfl
        | false =>
          have : stripS abc s ≠ [] := fun e => by
            have := (strip_nil abc s).1 e
            rw [hall, h6] at this; cases this
          exact beq_false_of_ne this
      rw [h5]; simp [nameB, h1.2]; omega
    simp [h4]
  · have h3 : (decide ((1 : Int) ≤ s.length) && decide ((s.length : Int) ≤ 6)) = false := by simp; omega
    have h4 : nameB s = false := by
      simp only [nameB, Bool.and_eq_false_iff, decide_eq_false_iff_not]; omega
    rw [h3]
    simp [h4]
end Go.Av.F
end
section
namespace Go.Av.F
open Go Go.Av
set_option linter.unusedSimpArgs false
set_option linter.unusedVariables false
set_option maxRecDepth 100000
attribute [local simp] tt3 tt4 tt9 tt5 tt22 tt25 tt23 tt35 tt33 tt27 tt42
theorem longC (t : List UInt8) : ACall Go.Proofs.Tryd.prog 69 [.str t] [] (fun r L' => r = .bool (!short t) ∧ L' = []) := by
  apply vc69 (by simp) (by simp)
  by_cases h : t.length ≤ 24
  · have h2 : ¬ (24 : Int) < t.length := by omega
    simp [ac69, short, h, h2]
  · have h2 : (24 : Int) < t.length := by omega
    simp [ac69, short, h, h2]
def idxS {α : Type} (p : α → Bool) (bs : List α) : Int := match bs.findIdx? p with
  | some i => i
  | none => -1
theorem idxS_neg {α : Type} (p : α → Bool) (bs : List α) : decide (0 ≤ idxS p bs) = bs.any p := by
  unfold idxS
  cases h : bs.findIdx? p with
  | none =>
    rw [List.findIdx?_eq_none_iff] at h
    have : bs.any p = false := by rw [List.any_eq_false]; intro x hx; simp [h x hx]
    simp [this]
  | some i =>
    have : bs.any p = true := by
      have h2 := (List.findIdx?_eq_some_iff_getElem.1 h)
      obtain ⟨hi, hp, _⟩ := h2
      rw [List.any_eq_true]; exact ⟨_, List.getElem_mem hi, hp⟩
    simp [this]
theorem idx_stepG {α : Type} (p : α → Bool) : ∀ (bs : List α) (i : Nat) (s : α), (∀ j, j < i → ∀ y, bs[j]? = some y → p y = false) → bs[i]? = some s → p s = true → bs.findIdx? p = some i
  | [], i, s, _, h, _ => by simp at h
  | a :: r, 0, s, _, h, hp => by
    simp only [List.getElem?_cons_zero, Option.some.injEq] at h
    subst h; simp [List.findIdx?_cons, hp]
  | a :: r, i + 1, s, hb, h, hp => by
    have h0 : p a = false := hb 0 (by omega) a (by simp)
    have := idx_stepG p r i s (fun j hj y hy => hb (j + 1) (by omega) y (by simpa using hy)) (by simpa using h) hp
    simp [List.findIdx?_cons, h0, this]
theorem idxSC (p : List UInt8 → Bool) (g : Nat) (bs : List (List UInt8)) (hl : bs.length < 2000000) (en : enters Go.Proofs.Tryd.prog g = true)
    (hg : ∀ s ∈ bs, ACall Go.Proofs.Tryd.prog g [.str s] [] (fun r L' => r = .bool (p s) ∧ L' = [])) :
    ACall Go.Proofs.Tryd.prog 133 [.lst 1 (bs.map strRow), .fn g []] [] (fun r L' => r = .int .i64 (idxS p bs) ∧ L' = []) := by
  apply vc133 (by simp) (by simp)
  simp [ac133]
  refine ev_loopX (X := Nat) [0, 1, 7, 8] (fun i => ⟨mkT [(0, .lst 1 (bs.map strRow)), (1, .fn g []), (7, .int .i64 bs.length), (8, .int .i64 i)], hpOf [], Us.of []⟩) (fun i => bs.length - i)
    (fun i => i ≤ bs.length ∧ ∀ j, j < i → ∀ y, bs[j]? = some y → p y = false) 0 ⟨by simp, [], by simp [canonOk], by simp [canon]⟩ ?_
  rintro i ⟨hi, ha⟩
  by_cases h1 : i < bs.length
  · obtain ⟨s, e0⟩ : ∃ s, bs[i] = s := ⟨_, rfl⟩
    have e1 : bs[i]? = some s := by rw [← e0]; exact List.getElem?_eq_getElem h1
    have hsm := List.mem_of_getElem? e1
    have e2 : IntKind.i64.wrap ((i : Int) + 1) = ((i + 1 : Nat) : Int) := by rw [i64_in' _ (by omega)]; omega
    simp [ac133_l0, h1, e0, e1, strRow]
    refine callA_val en (hg s hsm) (by simp) (by simp) ?_
    cases hp : p s with
    | true =>
      have := idx_stepG p bs i s ha e1 hp
      simp [idxS, this]
    | false =>
      simp [e2]
      refine nextX_of (i + 1) (by omega) ⟨by omega, fun j hj y hy => ?_⟩ [] (by simp [canonOk]) (by simp [canon, strRow])
      by_cases hji : j = i
      · subst hji; rw [e1] at hy; injection hy with hy; subst hy; exact hp
      · exact ha j (by omega) y hy
  · have hie : i = bs.length := by omega
    have : bs.findIdx? p = none := by
      rw [List.findIdx?_eq_none_iff]
      intro x hx
      obtain ⟨j, hj, e⟩ := List.mem_iff_getElem.1 hx
      exact ha j (by omega) x (by rw [← e]; exact List.getElem?_eq_getElem hj)
    subst hie
    simp [ac133_l0, idxS, this]
theorem contSC (p : List UInt8 → Bool) (g : Nat) (bs : List (List UInt8)) (hl : bs.length < 2000000) (en : enters Go.Proofs.Tryd.prog g = true)
    (hg : ∀ s ∈ bs, ACall Go.Proofs.Tryd.prog g [.str s] [] (fun r L' => r = .bool (p s) ∧ L' = [])) :
    ACall Go.Proofs.Tryd.prog 68 [.lst 1 (bs.map strRow), .fn g []] [] (fun r L' => r = .bool (bs.any p) ∧ L' = []) := by
  apply vc68 (by simp) (by simp)
  simp [ac68]
  refine callA_val en133 (idxSC p g bs hl en hg) (by simp) (by simp) ?_
  have := idxS_neg p bs
  simp [this]
end Go.Av.F
end
section
namespace Go.Av.F
open Go Go.Av
set_option linter.unusedSimpArgs false
set_option linter.unusedVariables false
set_option maxRecDepth 100000
attribute [local simp] tt3 tt4 tt9 tt5 tt22 tt25 tt23 tt35 tt33 tt27 tt42
theorem idxB_eq (p : BS → Bool) (bs : List BS) : idxB p bs = idxS p bs := rfl
theorem contC (p : BS → Bool) (g : Nat) (o : Ob) (bs : List BS) (hl : bs.length < 2000000) (hB : ∀ b ∈ bs, b.bl.length = 8) (ho : ∀ ρ, renOb ρ o = o) (hc : clR o.els = true) (en : enters Go.Proofs.Tryd.prog g = true)
    (hg : ∀ s ∈ bs, ACall Go.Proofs.Tryd.prog g [.agg (BS.row s), .ptr 1000 0 0] [(1000, o)] (fun r L' => r = .bool (p s) ∧ L' = [(1000, o)])) :
    ACall Go.Proofs.Tryd.prog 70 [.lst 11 (bs.map BS.row), .fn g [.ptr 1000 0 0]] [(1000, o)] (fun r L' => r = .bool (bs.any p) ∧ L' = [(1000, o)]) := by
  apply vc70 (by simp) (by simp)
  simp [ac70]
  refine callA_wh [(1000, .whole 1000)] en134 (idxC p g o bs hl hB ho hc en hg) (by simp) (by simp) (by simp; exact rowsMt_cl rfl hc) (by simp) (by simp) ?_
  rintro r L' ⟨rfl, rfl⟩
  refine ⟨[], ⟨by simp, by simp, by simp, by simp, by simp⟩, ?_⟩
  have := idxS_neg p bs
  rw [← idxB_eq] at this
  simp [ho, this]
theorem okF2C (bs : List BS) (s : BS) (hl : bs.length < 2000000) (hB : ∀ b ∈ bs, b.bl.length = 8) (hs : s.bl.length = 8) :
    ACall Go.Proofs.Tryd.prog 71 [.agg (BS.row s), .ptr 1000 0 0] [(1000, ⟨1, [[.lst 11 (bs.map BS.row)]]⟩)] (fun r L' => r = .bool (!leadsB bs bs.length s) ∧ L' = [(1000, ⟨1, [[.lst 11 (bs.map BS.row)]]⟩)]) := by
  apply vc71 (by simp) (by simp)
  simp [ac71, row_len _ hs, row_take _ hs]
  refine callA_val en72 (leadsC bs s hl hB hs) (by simp [bk]) (by simp) ?_
  simp
def ibookOkB (bs : List BS) : Bool := decide (bs.length ≤ 6) && okAll bs && !(bs.any fun s => !leadsB bs bs.length s)
theorem chunks1 (l : List (List UInt8)) (h : l.length = 8) : chunks 1 8 (l.map AV.str) = l.map strRow := by
  match l, h with
  | [a, b, c, d, e, f, g, i], _ => rfl
theorem any_short (l : List (List UInt8)) : (l.any fun t => !short t) = !l.all short := by
  rw [List.not_all_eq_any_not]
theorem ibookOkC (bs : List BS) (hl : bs.length < 2000000) (hB : ∀ b ∈ bs, b.bl.length = 8) (hs : ∀ b ∈ bs, b.name.length < 2000000) : ACall Go.Proofs.Tryd.prog 21 [bk bs] [] (fun r L' => r = .bool (ibookOkB bs) ∧ L' = []) := by
  obtain ⟨res, hres⟩ : ∃ res, ibookOkB bs = res := ⟨_, rfl⟩
  rw [hres]
  by_cases h0 : bs.length ≤ 6
  · have h0' : ¬ (6 : Int) < bs.length := by omega
    have h0'' : (bs.length : Int) ≤ 6 := by omega
    apply vc21 (by simp) (by simp)
    simp [ac21, bk, h0', h0'']
    refine ev_loopX (X := Nat) [1, 10, 11, 12] (fun i => ⟨mkT [(1, .ptr 1 0 0), (10, .lst 11 (bs.map BS.row)), (11, .int .i64 bs.length), (12, .int .i64 i)], hpOf [(1, ⟨1, [[.lst 11 (bs.map BS.row)]]⟩)], Us.of [1]⟩) (fun i => bs.length - i)
      (fun i => i ≤ bs.length ∧ ∀ j, j < i → ∀ s, bs[j]? = some s → okAt bs j s = true) 0 ⟨by simp, [(1, 1)], by simp [canonOk], by simp [canon, obOf]⟩ ?_
    rintro i ⟨hi, ha⟩
    by_cases h1 : i < bs.length
    · obtain ⟨s, e0⟩ : ∃ s, bs[i] = s := ⟨_, rfl⟩
      have e1 : bs[i]? = some s := by rw [← e0]; exact List.getElem?_eq_getElem h1
      have hsm : s ∈ bs := List.mem_of_getElem? e1
      have h8 := hB s hsm
      have e2 : IntKind.i64.wrap ((i : Int) + 1) = ((i + 1 : Nat) : Int) := by rw [i64_in' _ (by omega)]; omega
      have hbad : okAt bs i s = false → res = false := fun h => by rw [← hres, ibookOkB, okAll_bad bs i s e1 h]; simp
      have next : okAt bs i s = true → ∀ j, j < i + 1 → ∀ s, bs[j]? = some s → okAt bs j s = true := fun hok j hj y hy => by
        by_cases hji : j = i
        · subst hji; rw [e1] at hy; injection hy with hy; subst hy; exact hok
        · exact ha j (by omega) y hy
      have hfin : nameB s.name = true → okPrev bs i s = true → 1 ≤ s.kind → s.kind ≤ 2 → okAt bs i s = s.bl.all short := fun h1 h2 h3 h4 => by
        simp only [okAt, h1, h2, h3, h4, Bool.true_and, decide_true]; rfl
      simp [ac21_l0, h1, e0, e1, row_len _ h8, row_take _ h8]
      refine ⟨row_all s, callA_val en67 (ibookName s.name (by have := hs s hsm; omega)) (by simp) (by simp) ?_⟩
      cases hn : nameB s.name with
      | false => simp [hbad (by simp [okAt, hn])]
      | true =>
        have hn' := hn
        have hpv : okPrev bs i s = false → res = false := fun h => hbad (by simp [okAt, h])
        have hk : ¬ (s.kind = 1 ∨ s.kind = 2) → res = false := fun h => hbad (by
          by_cases hk1 : 1 ≤ s.kind
          · have hk2 : ¬ s.kind ≤ 2 := by omega
            simp [okAt, hk2]
          · simp [okAt, hk1])
        by_cases hi0 : i = 0
        · subst hi0
          simp
          refine ⟨fun g1 => ⟨fun g2 => ?_, fun g2 => hk (by omega)⟩, fun g1 => ?_⟩
          all_goals
            refine callA_vv en68 (contSC (fun t => !short t) 69 s.bl (by omega) en69 (fun t _ => longC t)) (by simp [chunks1 _ h8, row_len _ h8]; intro _ _; rfl) (by simp) (by simp) ?_
            rw [any_short]
            cases hb : s.bl.all short with
            | false => simp [hbad ((hfin hn' (by simp [okPrev]) (by omega) (by omega)).trans hb)]
            | true =>
              simp [show IntKind.i64.wrap 1 = 1 from rfl]
              exact nextX_of (0 + 1) (by omega) ⟨by omega, next ((hfin hn' (by simp [okPrev]) (by omega) (by omega)).trans hb)⟩ [(1, 1)] (by simp [canonOk]) (by simp [canon, obOf])
        · obtain ⟨m, hm⟩ : ∃ m, i = m + 1 := ⟨i - 1, by omega⟩
          subst hm
          obtain ⟨q, q0⟩ : ∃ q, bs[m] = q := ⟨_, rfl⟩
          have q1 : bs[m]? = some q := by rw [← q0]; exact List.getElem?_eq_getElem (by omega)
          have q2 : IntKind.i64.wrap (m : Int) = (m : Int) := by rw [i64_in' _ (by omega)]
          have q3 : m < bs.length := by omega
          have q4 := row_len q (hB q (List.mem_of_getElem? q1))
          have hbl : (Op.bytesLess s.name q.name || s.name == q.name) = !Op.bytesLess q.name s.name := bytesLess_leq _ _
          have hbl2 : (Op.bytesLess s.name q.name || q.name == s.name) = !Op.bytesLess q.name s.name := by rw [← hbl, BEq.comm]
          cases hq : Op.bytesLess q.name s.name with
          | false =>
            have hrf : res = false := hpv (by simp [okPrev, q1, hq])
            simp [q0, q1, q2, q3, hrf, q4, hbl, hbl2, hq]
          | true =>
            have hop : okPrev bs (m + 1) s = true := by simp [okPrev, q1, hq]
            have e2' : IntKind.i64.wrap ((m : Int) + 1 + 1) = (m : Int) + 1 + 1 := i64_in' _ (by omega)
            simp [q0, q1, q2, q3, q4, hbl, hbl2, hq]
            refine ⟨fun g1 => ⟨fun g2 => ?_, fun g2 => hk (by omega)⟩, fun g1 => ?_⟩
            all_goals
              refine callA_vv en68 (contSC (fun t => !short t) 69 s.bl (by omega) en69 (fun t _ => longC t)) (by simp [chunks1 _ h8, row_len _ h8]; intro _ _; rfl) (by simp) (by simp) ?_
              rw [any_short]
              cases hb : s.bl.all short with
              | false => simp [hbad ((hfin hn' hop (by omega) (by omega)).trans hb)]
              | true =>
                simp [e2']
                exact nextX_of (m + 1 + 1) (by omega) ⟨by omega, next ((hfin hn' hop (by omega) (by omega)).trans hb)⟩ [(1, 1)] (by simp [canonOk]) (by simp [canon, obOf])
    · have hie : i = bs.length := by omega
      subst hie
      have hok : okAll bs = true := by
        unfold okAll
        rw [List.all_eq_true]
        intro j hj
        have hj' : j < bs.length := by simpa using hj
        have hx : bs[j]? = some bs[j] := List.getElem?_eq_getElem hj'
        rw [hx]; exact ha j hj' _ hx
      simp [ac21_l0]
      refine callA_wh [(1000, .whole 1)] en70 (contC (fun s => !leadsB bs bs.length s) 71 ⟨1, [[.lst 11 (bs.map BS.row)]]⟩ bs hl hB (by simp) (by simp) en71 (fun s hsm => okF2C bs s hl hB (hB s hsm))) (by simp) (by simp) (by simp; exact rowsMt_cl rfl (by simp)) (by simp) (by simp) ?_
      rintro r L' ⟨rfl, rfl⟩
      refine ⟨[], ⟨by simp, by simp, by simp, by simp, by simp⟩, ?_⟩
      have : res = !(bs.any fun s => !leadsB bs bs.length s) := by
        rw [← hres]; simp only [ibookOkB, hok, h0, decide_true, Bool.true_and]
      simp [this]
  · have : res = false := by rw [← hres]; simp [ibookOkB, h0]
    have h0' : (6 : Int) < bs.length := by omega
    apply vc21 (by simp) (by simp)
    simp [ac21, bk, h0', this]
end Go.Av.F
end
section
namespace Go.Av.F
open Go Go.Av
set_option linter.unusedSimpArgs false
set_option linter.unusedVariables false
set_option maxRecDepth 100000
attribute [local simp] tt3 tt4 tt9 tt5 tt22 tt25 tt23 tt35 tt33 tt27 tt42
theorem renR_cl (ρ : Nat → Option Plc) : ∀ {els : List (List AV)}, clR els = true → els.map (renL ρ) = els
  | [], _ => rfl
  | a :: r, h => by
    simp only [clR, List.all_cons, Bool.and_eq_true] at h
    rw [List.map_cons, renL_closed.renL_closedL ρ a h.1, renR_cl ρ (els := r) (by simpa [clR] using h.2)]
end Go.Av.F
end
section
namespace Go.Av.F
open Go Go.Av
set_option linter.unusedSimpArgs false
set_option linter.unusedVariables false
set_option maxRecDepth 100000
attribute [local simp] tt3 tt4 tt9 tt5 tt22 tt25 tt23 tt35 tt33 tt27 tt42
end Go.Av.F
end
section
namespace Go.Av.F
open Go Go.Av
set_option linter.unusedSimpArgs false
set_option linter.unusedVariables false
set_option maxRecDepth 100000
attribute [local simp] tt3 tt4 tt9 tt5 tt22 tt25 tt23 tt35 tt33 tt27 tt42
@[simp] theorem row_comp (ρ : Nat → Option Plc) : (renL ρ ∘ BS.row) = BS.row := funext fun b => row_ren ρ b
end Go.Av.F
end
section
namespace Go.Av.F
open Go Go.Av
set_option linter.unusedSimpArgs false
set_option linter.unusedVariables false
set_option maxRecDepth 100000
attribute [local simp] tt3 tt4 tt9 tt5 tt22 tt25 tt23 tt35 tt33 tt27 tt42
def opOb (o : BO) : Ob := ⟨5, [BO.row o]⟩
@[simp] theorem bo_ren (ρ : Nat → Option Plc) (o : BO) : renL ρ (BO.row o) = BO.row o := by simp [BO.row]
@[simp] theorem opOb_ren (ρ : Nat → Option Plc) (o : BO) : renOb ρ (opOb o) = opOb o := by simp [opOb]
end Go.Av.F
end
section
namespace Go.Av.F
open Go Go.Av
set_option linter.unusedSimpArgs false
set_option linter.unusedVariables false
set_option maxRecDepth 100000
attribute [local simp] tt3 tt4 tt9 tt5 tt22 tt25 tt23 tt35 tt33 tt27 tt42
theorem okAll_at {bs : List BS} (h : okAll bs = true) {i : Nat} {s : BS} (hs : bs[i]? = some s) : okAt bs i s = true := by
  unfold okAll at h
  rw [List.all_eq_true] at h
  have := h i (by have := (List.getElem?_eq_some_iff.1 hs).1; simpa using this)
  rw [hs] at this; exact this
theorem okAll_srt {bs : List BS} (h : okAll bs = true) : Srt bs := by
  have step : ∀ i a b, bs[i]? = some a → bs[i + 1]? = some b → Op.bytesLess a.name b.name = true := fun i a b ha hb => by
    have := okAll_at h hb
    simp only [okAt, Bool.and_eq_true, okPrev] at this
    have h2 := this.1.1.1.2
    simp only [Nat.add_sub_cancel, ha] at h2
    simpa using h2
  intro i j a b hij ha hb
  obtain ⟨d, rfl⟩ : ∃ d, j = i + 1 + d := ⟨j - i - 1, by omega⟩
  clear hij
  induction d generalizing b with
  | zero => exact step i a b ha hb
  | succ d ih =>
    have hlt := (List.getElem?_eq_some_iff.1 hb).1
    have hc : bs[i + 1 + d]? = some (bs[i + 1 + d]'(by omega)) := List.getElem?_eq_getElem _
    exact bl_trans (ih _ hc) (step _ _ _ hc (by rw [← hb]; rfl))
theorem ibookOkB_srt {bs : List BS} (h : ibookOkB bs = true) : Srt bs := by
  simp only [ibookOkB, Bool.and_eq_true] at h; exact okAll_srt h.1.2
end Go.Av.F
end
section
namespace Go.Av.F
open Go Go.Av
set_option linter.unusedSimpArgs false
set_option linter.unusedVariables false
set_option maxRecDepth 100000
attribute [local simp] tt3 tt4 tt9 tt5 tt22 tt25 tt23 tt35 tt33 tt27 tt42
end Go.Av.F
end
section
namespace Go.Av.F
open Go Go.Av
set_option linter.unusedSimpArgs false
set_option linter.unusedVariables false
theorem bl_irrefl (a : List UInt8) : Op.bytesLess a a = false := by
  rw [Go.Proofs.bytesLess_eq]; simp [Std.lt_irrefl]
theorem srt_inj {bs : List BS} (hS : Srt bs) {i j : Nat} {a b : BS} (ha : bs[i]? = some a) (hb : bs[j]? = some b) (h : a.name = b.name) : i = j := by
  rcases Nat.lt_trichotomy i j with hij | hij | hij
  · have := hS i j a b hij ha hb; rw [h, bl_irrefl] at this; cases this
  · exact hij
  · have := hS j i b a hij hb ha; rw [h, bl_irrefl] at this; cases this
theorem atP_of {bs : List BS} (hS : Srt bs) {j : Nat} {t : BS} (ht : bs[j]? = some t) : atP bs t.name = j ∧ atB bs t.name = true := by
  have h := (takeWhile_step (fun b : BS => Op.bytesLess b.name t.name) bs j t (fun x hx y hy => hS x j y t hx hy ht) ht).2 (bl_irrefl _)
  have h' : atP bs t.name = j := h
  exact ⟨h', by unfold atB; rw [h', ht]; simp⟩
theorem find_at {bs : List BS} (hS : Srt bs) (x : List UInt8) : bs.findIdx? (fun b => b.name == x) = if atB bs x = true then some (atP bs x) else none := by
  split
  · rename_i h
    obtain ⟨u, hu, hun⟩ := atB_some h
    refine idx_step (fun b => b.name == x) bs (atP bs x) u (fun j hj y hy => ?_) hu (by simp [hun])
    rw [beq_eq_false_iff_ne]
    intro e
    have := srt_inj hS hy hu (e.trans hun.symm)
    omega
  · rename_i h
    rw [List.findIdx?_eq_none_iff]
    intro b hb
    obtain ⟨j, hj, e⟩ := List.mem_iff_getElem.1 hb
    rw [beq_eq_false_iff_ne]
    intro e2
    have hb2 : bs[j]? = some b := by rw [← e]; exact List.getElem?_eq_getElem hj
    have := (atP_of hS hb2).2
    rw [e2] at this; exact h this
theorem leads_roots {bs : List BS} (hS : Srt bs) : ∀ (m : Nat) (s : BS), leadsB bs m s = roots bs m s
  | 0, s => rfl
  | m + 1, s => by
    simp only [leadsB, roots, find_at hS]
    split
    · rfl
    · cases h : atB bs s.frm with
      | false =>
        simp
        split <;> rfl
      | true =>
        simp only [if_true]
        cases hu : bs[atP bs s.frm]? with
        | none => rfl
        | some t =>
          simp only
          by_cases hk : t.kind = s.kind
          · simp [hk]
          · simp [hk, leads_roots hS m t]
theorem roots_mono {bs : List BS} : ∀ (m : Nat) (s : BS), roots bs m s = true → roots bs (m + 1) s = true
  | 0, s, h => by simp [roots] at h
  | m + 1, s, h => by
    simp only [roots] at h
    rw [roots]
    split at h
    · rename_i h1; rw [if_pos h1]; exact h
    · rename_i h1
      rw [if_neg h1]
      split at h
      · rename_i t ht
        split at h
        · rename_i h2; rw [if_pos h2]; exact roots_mono m t h
        · cases h
      · cases h
theorem roots_step {bs : List BS} {m : Nat} (h : ∀ s ∈ bs, roots bs m s = roots bs (m + 1) s) : ∀ s, roots bs (m + 1) s = roots bs (m + 2) s := fun s => by
  rw [roots, roots]
  split
  · rfl
  · split
    · rename_i t ht
      split
      · exact h t (List.mem_of_getElem? ht)
      · rfl
    · rfl
theorem countP_strict {α : Type} {p q : α → Bool} : ∀ {l : List α}, (∀ x ∈ l, p x = true → q x = true) → (∃ x ∈ l, q x = true ∧ p x = false) → l.countP p < l.countP q
  | [], _, h => by obtain ⟨x, hx, _⟩ := h; simp at hx
  | a :: r, h, hex => by
    have hle : r.countP p ≤ r.countP q := List.countP_mono_left fun x hx => h x (List.mem_cons_of_mem _ hx)
    obtain ⟨x, hx, h1, h2⟩ := hex
    simp only [List.mem_cons] at hx
    rcases hx with rfl | hx
    · rw [List.countP_cons, List.countP_cons, if_pos h1, if_neg (by simp [h2])]; omega
    · have := countP_strict (l := r) (fun x hx => h x (List.mem_cons_of_mem _ hx)) ⟨x, hx, h1, h2⟩
      rw [List.countP_cons, List.countP_cons]
      cases ha : p a with
      | true => rw [if_pos rfl, if_pos (h a (by simp) ha)]; omega
      | false =>
        simp only [Bool.false_eq_true, if_false]
        split <;> omega
theorem roots_grow (bs : List BS) : ∀ m : Nat, (∀ s ∈ bs, roots bs m s = roots bs (m + 1) s) ∨ m + 1 ≤ bs.countP (roots bs (m + 1))
  | 0 => by
    rcases Nat.eq_zero_or_pos (bs.countP (roots bs 1)) with h | h
    · left
      intro s hs
      rw [List.countP_eq_zero] at h
      have := h s hs
      simp only [roots, Bool.not_eq_true] at this ⊢
      exact this.symm
    · right; exact h
  | m + 1 => by
    rcases roots_grow bs m with h | h
    · exact .inl fun s _ => roots_step h s
    · by_cases hs : ∀ s ∈ bs, roots bs (m + 1) s = roots bs (m + 2) s
      · exact .inl hs
      · right
        have : ∃ s ∈ bs, roots bs (m + 2) s = true ∧ roots bs (m + 1) s = false := by
          simp only [Classical.not_forall] at hs
          obtain ⟨s, hm, hne⟩ := hs
          refine ⟨s, hm, ?_⟩
          cases h1 : roots bs (m + 1) s with
          | true => exact absurd ((h1.trans (roots_mono _ _ h1).symm)) hne
          | false =>
            cases h2 : roots bs (m + 2) s with
            | true => exact ⟨rfl, rfl⟩
            | false => exact absurd (h1.trans h2.symm) hne
        have : bs.countP (roots bs (m + 1)) < bs.countP (roots bs (m + 1 + 1)) := countP_strict (fun x _ hx => roots_mono (m + 1) x hx) this
        omega
theorem roots_len (bs : List BS) : ∀ s ∈ bs, roots bs bs.length s = roots bs (bs.length + 1) s := by
  rcases roots_grow bs bs.length with h | h
  · exact h
  · have := List.countP_le_length (p := roots bs (bs.length + 1)) (l := bs); omega
theorem ok_eq (bs : List BS) : ibookOkB bs = bookOkB bs := by
  unfold ibookOkB bookOkB
  cases h : okAll bs with
  | false => simp
  | true =>
    have hS := okAll_srt h
    congr 1
    rw [← List.not_all_eq_any_not, Bool.not_not]
    rw [Bool.eq_iff_iff, List.all_eq_true, List.all_eq_true]
    constructor
    · intro h s hs; rw [← roots_len bs s hs, ← leads_roots hS]; exact h s hs
    · intro h s hs; rw [leads_roots hS, roots_len bs s hs]; exact h s hs
end Go.Av.F
end
section
namespace Go.Av.F
open Go Go.Av
set_option linter.unusedSimpArgs false
set_option linter.unusedVariables false
set_option maxRecDepth 100000
attribute [local simp] tt3 tt4 tt9 tt5 tt22 tt25 tt23 tt35 tt33 tt27 tt42 tt54
end Go.Av.F
end
section
namespace Go.Av.F
open Go Go.Av
set_option linter.unusedSimpArgs false
set_option linter.unusedVariables false
set_option maxRecDepth 100000
attribute [local simp] tt3 tt4 tt9 tt5 tt22 tt25 tt23 tt35 tt33 tt27 tt42 tt54
@[simp] theorem mtL_bo (hv : Hp) (ids : List Nat) (ρ : Nat → Option Plc) (o : BO) : mtL hv ids ρ (BO.row o) (BO.row o) := mtL_cl _ (by simp [BO.row])
def BkG (bs : List BS) : Prop := ∀ b ∈ bs, b.bl.length = 8 ∧ b.name.length ≤ 24 ∧ b.frm.length ≤ 24
end Go.Av.F
end
section
namespace Go.Av.F
open Go Go.Av
set_option linter.unusedSimpArgs false
set_option linter.unusedVariables false
set_option maxRecDepth 100000
attribute [local simp] tt3 tt4 tt9 tt5 tt22 tt25 tt23 tt35 tt33 tt27 tt42 tt54
@[simp] theorem row_drop1 (t : BS) : (BS.row t).drop 1 = .int .i64 t.kind :: .str t.frm :: t.bl.map .str := rfl
@[simp] theorem row_drop2 (t : BS) : (BS.row t).drop 2 = .str t.frm :: t.bl.map .str := rfl
@[simp] theorem row_take1 (t : BS) : (BS.row t).take 1 = [.str t.name] := rfl
@[simp] theorem row_take2 (t : BS) : (BS.row t).take 2 = [.str t.name, .int .i64 t.kind] := rfl
@[simp] theorem row_take3 (t : BS) : (BS.row t).take 3 = [.str t.name, .int .i64 t.kind, .str t.frm] := rfl
end Go.Av.F
end
section
namespace Go.Av.F
open Go Go.Av
set_option linter.unusedSimpArgs false
set_option linter.unusedVariables false
set_option maxRecDepth 100000
attribute [local simp] tt3 tt4 tt9 tt5 tt22 tt25 tt23 tt35 tt33 tt27 tt42 tt54
end Go.Av.F
end
section
namespace Go.Av.F
open Go Go.Av
set_option linter.unusedSimpArgs false
set_option linter.unusedVariables false
inductive Rt (bs : List BS) : BS → Prop
  | root (s : BS) : s.frm = [] → s.kind = 1 → Rt bs s
  | step (s t : BS) : s.frm ≠ [] → t ∈ bs → t.name = s.frm → t.kind ≠ s.kind → Rt bs t → Rt bs s
theorem Rt.map {bs bs' : List BS} (hb : ∀ u ∈ bs, ∃ u' ∈ bs', u'.name = u.name ∧ u'.kind = u.kind ∧ u'.frm = u.frm) {s : BS} (h : Rt bs s) : ∀ s' : BS, s'.frm = s.frm → s'.kind = s.kind → Rt bs' s' := by
  induction h with
  | root s h1 h2 => exact fun s' e1 e2 => .root s' (e1.trans h1) (e2.trans h2)
  | step s t h1 h2 h3 h4 _ ih =>
    intro s' e1 e2
    obtain ⟨u, hu, g1, g2, g3⟩ := hb t h2
    exact .step s' u (by rw [e1]; exact h1) hu (by rw [e1, g1]; exact h3) (by rw [e2, g2]; exact h4) (ih u g3 g2)
end Go.Av.F
end
section
namespace Go.Av.F
open Go Go.Av
set_option linter.unusedSimpArgs false
set_option linter.unusedVariables false
theorem implOkC (bs : List BS) (hb : BkG bs) (hl : bs.length < 1500000) : ACall Go.Proofs.Tryd.prog 21 [bk bs] [] (fun r L' => r = .bool (bookOkB bs) ∧ L' = []) :=
  ok_eq bs ▸ ibookOkC bs (by omega) (fun b h => (hb b h).1) (fun b h => by have := (hb b h).2.1; omega)
theorem specOkC (bs : List BS) (hb : BkG bs) (hl : bs.length < 1500000) : ACall Go.Proofs.Tryd.prog 18 [bk bs] [] (fun r L' => r = .bool (bookOkB bs) ∧ L' = []) :=
  bookOkC bs (by omega) (fun b h => (hb b h).1) (fun b h => by have := (hb b h).2.1; omega)
end Go.Av.F
end
section
namespace Go.Av
open Go.RowKit
set_option linter.unusedSimpArgs false
set_option linter.unusedVariables false
def Old (w : World) (p : Addr) : Prop := p.block < w.heap.size
theorem old_cell {w : World} {p : Addr} {v : Value} (h : w.cell? p = some v) : Old w p := World.block_lt_of_cell? w _ h
theorem fr_below {F : Addr → Prop} {w w' : World} (h : Fr F w w') (hF : ∀ p, ¬ F p) : Below w.heap.size w w' := by
  refine ⟨h.os, h.tape, h.output, h.size, fun k hk => ?_⟩
  rcases h.blk k hk with e | ⟨c, c', ty, fz, h1, h2, h3, h4⟩
  · exact e
  · have : c' = c := Array.ext_getElem? fun i => h4 i (hF _)
    rw [h1, h2, this]
theorem calls_below {P : Program} {f : Nat} {args : List AV} {v : AV} {u : Value} (hb : hasBody P f = true) {W : World} {vs : Array Value} (hv : CRel W (Old W) noG args vs)
    (hu : ∀ (w : World) (Z : Addr → Prop) (γ : Gm) (x : Value), AVRel w Z γ v x → x = u) (hC : ACall P f args [] (fun r L' => r = v ∧ L' = [])) :
    Calls P f vs W fun e w' => e = .returned u ∧ Below W.heap.size W w' := by
  have hno : ∀ p, ¬ Foot noG (hpOf []) p := fun p hp => by
    obtain ⟨id, o, r, h, _⟩ := hp
    simp at h
  have h := hC W (Old W) noG vs hv ⟨fun i x hx => by simp at hx, fun i j o1 o2 r1 r2 hne g1 => by simp at g1, fun i x rg hx => by simp at hx, fun p hp => hp⟩ (fun id r hr => by simp [noG] at hr)
  refine (h.calls hb).mono ?_
  rintro e w' ⟨x, r, L', Z', γ', rfl, ⟨rfl, rfl⟩, hx, _, hfr, _⟩
  exact ⟨by rw [hu _ _ _ _ hx], fr_below hfr hno⟩
theorem bool_only (b : Bool) : ∀ (w : World) (Z : Addr → Prop) (γ : Gm) (x : Value), AVRel w Z γ (.bool b) x → x = .bool b := fun w Z γ x h => by cases h; rfl
end Go.Av
end
section
namespace Go.Proofs.YtiidedhlnlaalaaDoor
open Go.ChangeShapes Go.WideShapes Go.ChangeAt Go.RowKit
set_option linter.unusedVariables false
theorem fact_own : ownKnob Tryd.prog.godebug = none := by kernel_rfl
theorem fact_laidOut : laidOutB Tryd.prog = true := by kernel_rfl
theorem fact_mapsRowed : mapsRowed Tryd.prog = true := by kernel_rfl
theorem fact_heard : Tryd.prog.stopsHeard = true := by kernel_rfl
theorem fact_mayEnter : Tryd.prog.mayEnter = true := by kernel_rfl
theorem fact_main : Tryd.pinned.checked.prog.mainIs = some (true, "2c87a6b6aad5d6925286b7b8337d65ec16c4c216255dd393ccb0f40eda3f2dd0".toList) := by kernel_rfl
theorem fact_looks : true = Tryd.prog.looks [] := by kernel_rfl
end Go.Proofs.YtiidedhlnlaalaaDoor
end
section
namespace Go.Av.F
open Go Go.Av
set_option linter.unusedSimpArgs false
set_option linter.unusedVariables false
set_option maxRecDepth 100000
attribute [local simp] tt3 tt4 tt9 tt5 tt22 tt25 tt23 tt35 tt33 tt27 tt42 tt54
theorem renL_strc (ρ : Nat → Option Plc) : (renL ρ ∘ strRow) = strRow := by funext x; simp [strRow]
theorem take_str (l : List (List UInt8)) : List.take l.length (l.map strRow) = l.map strRow := List.take_of_length_le (by simp)
attribute [local simp] renL_strc take_str
end Go.Av.F
end
section
namespace Go.Av.F
open Go Go.Av
set_option linter.unusedSimpArgs false
set_option linter.unusedVariables false
set_option maxRecDepth 100000
attribute [local simp] tt3 tt4 tt9 tt5 tt22 tt25 tt23 tt35 tt33 tt27 tt42 tt54
end Go.Av.F
end
section
namespace Go.Av.F
open Go Go.Av
set_option linter.unusedSimpArgs false
set_option linter.unusedVariables false
set_option maxRecDepth 100000
attribute [local simp] tt3 tt4 tt9 tt5 tt22 tt25 tt23 tt35 tt33 tt27 tt42 tt54
end Go.Av.F
end
section
namespace Go.Av.F
open Go Go.Av
set_option linter.unusedSimpArgs false
set_option linter.unusedVariables false
set_option maxRecDepth 100000
attribute [local simp] tt3 tt4 tt9 tt5 tt22 tt25 tt23 tt35 tt33 tt27 tt42 tt54
attribute [local simp] renL_strc take_str
end Go.Av.F
end
section
namespace Go.Av.F
open Go Go.Av
set_option linter.unusedSimpArgs false
set_option linter.unusedVariables false
set_option maxRecDepth 100000
attribute [local simp] tt3 tt4 tt9 tt5 tt22 tt25 tt23 tt35 tt33 tt27 tt42 tt54
attribute [local simp] renL_strc take_str
end Go.Av.F
end
section
namespace Go.Av.F
open Go Go.Av
set_option linter.unusedSimpArgs false
set_option linter.unusedVariables false
inductive Dn (b : List BS) (x : List UInt8) : List UInt8 → Prop
  | self : Dn b x x
  | kid (s : BS) : s ∈ b → Dn b x s.frm → Dn b x s.name
theorem Dn.trans {b : List BS} {x y z : List UInt8} (h : Dn b x y) (k : Dn b y z) : Dn b x z := by
  induction k with
  | self => exact h
  | kid s hs _ ih => exact .kid s hs ih
end Go.Av.F
end
section
namespace Go.Av.F
open Go Go.Av
set_option linter.unusedSimpArgs false
set_option linter.unusedVariables false
set_option maxRecDepth 100000
attribute [local simp] tt3 tt4 tt9 tt5 tt22 tt25 tt23 tt35 tt33 tt27 tt42 tt54
attribute [local simp] renL_strc take_str
end Go.Av.F
end
section
namespace Go.Av
open Go.RowKit
set_option linter.unusedSimpArgs false
set_option linter.unusedVariables false
section
variable {P : Program} {E : Env} {s : S} {Q : Exit → S → Prop}
theorem sw_impc (k j : Nat) {sz : Nat} {row : List AV} {b : AV} (hk : s.h k = some ⟨sz, [row]⟩) (hj : j < row.length) (hi : impA (row.getD j .top) b) : SW E s ⟨s.t, upd s.h k (some ⟨sz, [row.set j b]⟩), s.u⟩ := fun cx Z γ ac w hn hin hs => by
  have key : ∀ i x, upd s.h k (some (⟨sz, [row.set j b]⟩ : Ob)) i = some x → (i = k ∧ x = ⟨sz, [row.set j b]⟩) ∨ (i ≠ k ∧ s.h i = some x) := fun i x hx => by
    by_cases h2 : i = k
    · subst h2; rw [upd_same] at hx; injection hx with hx; exact .inl ⟨rfl, hx.symm⟩
    · rw [upd_ne _ _ h2] at hx; exact .inr ⟨h2, hx⟩
  have hex : ∀ i x, upd s.h k (some (⟨sz, [row.set j b]⟩ : Ob)) i = some x → ∃ y, s.h i = some y := fun i x hx => by
    rcases key i x hx with ⟨rfl, _⟩ | ⟨_, h⟩
    · exact ⟨_, hk⟩
    · exact ⟨_, h⟩
  refine ⟨Z, γ, hs.tmp, hs.siz, hs.dfr, ⟨fun i x hx => ?_, fun i i2 o1 o2 r1 r2 hne g1 g2 e1 e2 => ?_, fun i x r hx hr => ?_, hs.hp.zlt⟩, hs.fr, fun i x r hx hr => ?_, hs.z0, hs.z1, hs.scp, hs.in0, hs.inp⟩
  · rcases key i x hx with ⟨rfl, rfl⟩ | ⟨_, h⟩
    · obtain ⟨r0, hr0, hor0⟩ := hs.hp.obj _ _ hk
      refine ⟨r0, hr0, hor0.spot, hor0.sz, hor0.fit, fun e he => ?_, hor0.live, fun e j2 he hj2 => ?_, hor0.pln⟩
      · have h0 : e = 0 := by simpa using he
        subst h0
        have := hor0.len 0 (by simp)
        simpa using this
      · have h0 : e = 0 := by simpa using he
        subst h0
        obtain ⟨u, hu, hru⟩ := hor0.cell 0 j2 (by simp) hj2
        refine ⟨u, hu, ?_⟩
        show AVRel w Z γ ((row.set j b).getD j2 .top) u
        by_cases hjj : j2 = j
        · subst hjj
          rw [List.getD_eq_getElem?_getD, List.getElem?_set_self hj]
          exact hi _ _ _ _ hru
        · rw [List.getD_eq_getElem?_getD, List.getElem?_set_ne (Ne.symm hjj), ← List.getD_eq_getElem?_getD]
          exact hru
    · exact hs.hp.obj i x h
  · obtain ⟨y1, h1⟩ := hex _ _ g1
    obtain ⟨y2, h2⟩ := hex _ _ g2
    exact hs.hp.dis i i2 y1 y2 r1 r2 hne h1 h2 e1 e2
  · obtain ⟨y, h⟩ := hex _ _ hx
    exact hs.hp.zon i y r h hr
  · obtain ⟨y, h⟩ := hex _ _ hx
    exact hs.own i y r h hr
end
end Go.Av
end
section
namespace Go.Av.F
open Go Go.Av
set_option linter.unusedSimpArgs false
set_option linter.unusedVariables false
set_option maxRecDepth 100000
attribute [local simp] tt3 tt4 tt9 tt5 tt22 tt25 tt23 tt35 tt33 tt27 tt42 tt54 tt45 tt47 tt49
structure TR where
  base : List BS
  since : List BO
  sure : Int
def TR.row (t : TR) : List AV := [.lst 11 (t.base.map BS.row), .lst 5 (t.since.map BO.row), .int .i64 t.sure]
def bkRow (b : List BS) : List AV := [.lst 11 (b.map BS.row)]
theorem renL_bkc (ρ : Nat → Option Plc) : (renL ρ ∘ bkRow) = bkRow := by funext x; simp [bkRow]
theorem take_bks (l : List (List BS)) : List.take l.length (l.map bkRow) = l.map bkRow := List.take_of_length_le (by simp)
attribute [local simp] renL_bkc take_bks
theorem op_len (o : BO) : (BO.row o).length = 5 := rfl
theorem op_take (o : BO) : (BO.row o).take 5 = BO.row o := rfl
attribute [local simp] op_len op_take
end Go.Av.F
end
section
namespace Go.Av.F
open Go Go.Av
set_option linter.unusedSimpArgs false
set_option linter.unusedVariables false
set_option maxRecDepth 100000
attribute [local simp] tt3 tt4 tt9 tt5 tt22 tt25 tt23 tt35 tt33 tt27 tt42 tt54 tt45 tt47 tt49 op_len op_take
def opsOb (l : List BO) : Ob := ⟨5, l.map BO.row⟩
theorem ops_sz (l : List BO) : (opsOb l).sz = 5 := rfl
theorem ops_els (l : List BO) : (opsOb l).els = l.map BO.row := rfl
theorem renL_opc (ρ : Nat → Option Plc) : (renL ρ ∘ BO.row) = BO.row := by funext x; simp [BO.row]
theorem take_ops (l : List BO) : List.take l.length (l.map BO.row) = l.map BO.row := List.take_of_length_le (by simp)
attribute [local simp] ops_sz ops_els renL_opc take_ops
def zTr : Ob := ⟨3, [[.nils, .nils, .int .i64 0]]⟩
def tN (bs : List UInt8) (b : List BS) (sure : Int) (q : Int) (i : Int) : S :=
  ⟨mkT [(0, .ptr 1000 0 0), (2, .ptr 2 0 0), (3, .ptr 3 0 0), (4, .ptr 4 0 0), (5, .int .i64 i)], hpOf [(1000, rdOb bs q), (2, zTr), (3, ⟨3, [[.lst 11 (b.map BS.row), .nils, .int .i64 sure]]⟩), (4, ⟨1, [bkRow b]⟩)], Us.of [1000, 1000, 2, 3, 4]⟩
def tC (bs : List UInt8) (b : List BS) (sure : Int) (ops : List BO) (q : Int) (i : Int) : S :=
  ⟨mkT [(0, .ptr 1000 0 0), (2, .ptr 2 0 0), (3, .ptr 3 0 0), (4, .ptr 4 0 0), (5, .int .i64 i)], hpOf [(1000, rdOb bs q), (2, zTr), (3, ⟨3, [[.lst 11 (b.map BS.row), .sl 901 0 ops.length, .int .i64 sure]]⟩), (4, ⟨1, [bkRow b]⟩), (901, opsOb ops)], Us.of [1000, 1000, 2, 3, 4, 901]⟩
def tS (bs : List UInt8) (b : List BS) (sure : Int) (x : Int × Int × List BO) : S := if x.2.2 = [] then tN bs b sure x.2.1 x.1 else tC bs b sure x.2.2 x.2.1 x.1
theorem map_cl {E : List (List AV)} (ρ : Nat → Option Plc) (h : clR E = true) : E.map (renL ρ) = E := renR_cl ρ h
theorem clR_app {a b : List (List AV)} (h1 : clR a = true) (h2 : clR b = true) : clR (a ++ b) = true := by
  simp only [clR, List.all_append, Bool.and_eq_true] at *; exact ⟨h1, h2⟩
theorem clR_take {a : List (List AV)} (n : Nat) (h : clR a = true) : clR (a.take n) = true := by
  simp only [clR, List.all_eq_true] at *; exact fun x hx => h x (List.mem_of_mem_take hx)
end Go.Av.F
end
