/- Lemmas for the proof, no statement of the seat; no conditions. -/
import Derived.Test.YtffammdakbbanaaGreatDoorLayAL
import Derived.Test.YtffammdakbbanaaGreatDoorProg
section
namespace Go.Av.F
open Go Go.Av
open Go.Proofs Go.Proofs.Tryz
attribute [-simp] getU hdS canon canonOk i64w
set_option linter.unusedSimpArgs false
set_option linter.unusedVariables false
set_option maxRecDepth 100000
attribute [local simp] tt3 tt4 tt9 tt5 tt22 tt40 tt38 tt52 tt50 tt57 tt95 tt26
theorem manyC (s : List UInt8) (n : Int) (hn : 0 ≤ n ∧ n ≤ 100) (hs : s.length ≤ 100) : ACall Go.Proofs.Tryz.prog 99 [.str s, .int .i64 n] [] (fun r L' => ∃ t, r = .str t ∧ L' = []) := by
  refine acx func99 [] ntmps99 rfl rfl rfl ?_
  simp
  have w1 : ((n.toNat : Nat) : Int) = n := by omega
  have w2 : max n 0 = n := by omega
  refine ev_loopX (X := List UInt8 × List UInt8 × Nat) [0, 1, 5] (fun x => ⟨mkT [(0, .str x.1), (1, .int .i64 x.2.2), (5, .str x.2.1)], hpOf [], Us.of []⟩) (fun x => x.2.2) (fun x => x.2.1.length + x.1.length * x.2.2 ≤ 10000 ∧ x.1.length ≤ 20000 ∧ x.2.2 ≤ 100) (s, [], n.toNat)
    ⟨⟨?_, by show s.length ≤ 20000; omega, by show n.toNat ≤ 100; omega⟩, [], by simp [canonOk], by simp [canon, w1, w2]⟩ ?_
  · simp only [List.length_nil, Nat.zero_add]
    exact Nat.mul_le_mul hs (by omega : n.toNat ≤ 100)
  rintro ⟨s, out, m⟩ ⟨h1, h2, hm100⟩
  simp only at h1 h2 hm100
  by_cases h0 : m = 0
  · subst h0
    simp
  · have hm : (0 : Int) < m := by omega
    have hm' : 0 < m := by omega
    have e1 : IntKind.i64.wrap ((m : Int).tmod 2) = ((m % 2 : Nat) : Int) := by
      rw [Int.tmod_eq_emod_of_nonneg (by omega), i64_in' _ (by omega)]; omega
    have e2 : IntKind.i64.wrap ((m : Int).tdiv 2) = ((m / 2 : Nat) : Int) := by
      rw [Int.tdiv_eq_ediv_of_nonneg (by omega), i64_in' _ (by omega)]; omega
    have e3 : (m : Int).tmod 2 = ((m % 2 : Nat) : Int) := by rw [Int.tmod_eq_emod_of_nonneg (by omega)]; omega
    have e4 : (m : Int).tdiv 2 = ((m / 2 : Nat) : Int) := by rw [Int.tdiv_eq_ediv_of_nonneg (by omega)]; omega
    have e5 : IntKind.i64.wrap ((m : Int) / 2) = (m : Int) / 2 := i64_in' _ (by omega)
    have hsl : s.length ≤ 10000 := by
      have h3 : s.length * 1 ≤ s.length * m := Nat.mul_le_mul_left _ hm'
      rw [Nat.mul_one] at h3
      exact Nat.le_trans h3 (Nat.le_trans (Nat.le_add_left _ _) h1)
    by_cases hodd : m % 2 = 1
    · have hmm : m = 2 * (m / 2) + 1 := by omega
      have hk : (out ++ s).length + (s ++ s).length * (m / 2) ≤ 10000 := by
        have : s.length * m = s.length * (2 * (m / 2)) + s.length := by conv => lhs; rw [hmm, Nat.mul_add, Nat.mul_one]
        simp only [List.length_append]
        rw [← Nat.two_mul, Nat.mul_assoc, Nat.mul_left_comm]; omega
      have hol : out.length ≤ 10000 := Nat.le_trans (Nat.le_add_right _ _) h1
      simp [hm, hm', e1, e2, e3, e4, e5, hodd]
      refine ⟨by omega, by omega, nextX_of (s ++ s, out ++ s, m / 2) (by simp only; omega) ⟨hk, by simp; omega, by show m / 2 ≤ 100; omega⟩ [] (by simp [canonOk]) (by simp [canon, e5])⟩
    · have hmm : m = 2 * (m / 2) := by omega
      have hk : out.length + (s ++ s).length * (m / 2) ≤ 10000 := by
        have : s.length * m = s.length * (2 * (m / 2)) := by conv => lhs; rw [hmm]
        simp only [List.length_append]
        rw [← Nat.two_mul, Nat.mul_assoc, Nat.mul_left_comm]; omega
      have hodd' : ¬ (m : Int) % 2 = 1 := by omega
      simp [hm, hm', e1, e2, e3, e4, e5, hodd, hodd']
      refine ⟨by omega, nextX_of (s ++ s, out, m / 2) (by simp only; omega) ⟨hk, by simp; omega, by show m / 2 ≤ 100; omega⟩ [] (by simp [canonOk]) (by simp [canon, e5])⟩
def OpG (o : BO) : Prop := o.a.length ≤ 24 ∧ o.b.length ≤ 24
def opR (bs : List UInt8) (p : Int) (r : AV) (L' : List (Nat × Ob)) : Prop := ∃ (o : BO) (q : Int), OpG o ∧ p ≤ q ∧ q ≤ p + 20 ∧ r = .agg (BO.row o) ∧ L' = [(1000, rdOb bs q)]
def oSt (bs : List UInt8) (rows : List (List AV)) (x : Int × BO) : S :=
  ⟨mkT [(0, .ptr 1000 0 0), (3, .ptr 3 0 0), (4, .ptr 4 0 0), (5, .ptr 5 0 0)], hpOf [(1000, rdOb bs x.1), (3, ⟨1, [[.lst 11 rows]]⟩), (4, opOb ⟨0, [], [], 0, []⟩), (5, opOb x.2)], Us.of [1000, 1000, 3, 4, 5]⟩
def oGd (p k : Int) (x : Int × BO) : Prop := p ≤ x.1 ∧ x.1 ≤ p + k ∧ OpG x.2
theorem callPick {bs : List UInt8} {p n : Int} (hp : 0 ≤ p ∧ p < 1000000000) (hb : bs.length ≤ 2000) {s : S} {dst : Option Nat} {K : S → Prop} (hr : s.h 1000 = some (rdOb bs p))
    (hK : ∀ k : Int, (1 ≤ n → 0 ≤ k ∧ k < n) → (n < 1 → k = 0) → K ⟨putA s.t dst (.int .i64 k), upd s.h 1000 (some (rdOb bs (p + 1))), s.u⟩) : callA Go.Proofs.Tryz.prog 32 [.ptr 1000 0 0, .int .i64 n] dst s K := by
  refine callA_wh [(1000, .whole 1000)] (by kernel_rfl) (pickC bs p n hp hb) (by simp) (by simp) (by simp [hr]) (by simp) (by simp [hr]) ?_
  rintro r L' ⟨k, rfl, h1, h2, rfl⟩
  refine ⟨[], ⟨by simp, by simp, by simp, by simp, by simp⟩, ?_⟩
  have e : (afterS s [(1000, .whole 1000)] [] dst (.int .i64 k) [(1000, rdOb bs (p + 1))]) = ⟨putA s.t dst (.int .i64 k), upd s.h 1000 (some (rdOb bs (p + 1))), s.u⟩ := by
    simp only [afterS]
    congr 1
    · funext i; simp; split <;> simp_all
    · exact Us.app_nil _
  rw [e]; exact hK k h1 h2
theorem callName {bs : List UInt8} {p : Int} (hp : 0 ≤ p ∧ p < 1000000000) (hb : bs.length ≤ 2000) {s : S} {dst : Option Nat} {K : S → Prop} (hr : s.h 1000 = some (rdOb bs p))
    (hK : ∀ k : List UInt8, k.length ≤ 24 → K ⟨putA s.t dst (.str k), upd s.h 1000 (some (rdOb bs (p + 1))), s.u⟩) : callA Go.Proofs.Tryz.prog 48 [.ptr 1000 0 0] dst s K := by
  refine callA_wh [(1000, .whole 1000)] (by kernel_rfl) (nameC bs p hp hb) (by simp) (by simp) (by simp [hr]) (by simp) (by simp [hr]) ?_
  rintro r L' ⟨k, hk, rfl, rfl⟩
  refine ⟨[], ⟨by simp, by simp, by simp, by simp, by simp⟩, ?_⟩
  have e : (afterS s [(1000, .whole 1000)] [] dst (.str k) [(1000, rdOb bs (p + 1))]) = ⟨putA s.t dst (.str k), upd s.h 1000 (some (rdOb bs (p + 1))), s.u⟩ := by
    simp only [afterS]
    congr 1
    · funext i; simp; split <;> simp_all
    · exact Us.app_nil _
  rw [e]
  refine hK k ?_
  simp only [names, List.mem_cons, List.not_mem_nil, or_false] at hk
  rcases hk with rfl | rfl | rfl | rfl | rfl | rfl | rfl | rfl <;> simp
theorem callNum {bs : List UInt8} {p : Int} (ls : List Int) {id n : Nat} (hp : 0 ≤ p ∧ p < 1000000000) (hb : bs.length ≤ 2000) {s : S} {dst : Option Nat} {K : S → Prop} (hr : s.h 1000 = some (rdOb bs p)) (hid : id ≠ 1000)
    (ho : s.h id = some (i64Ob ls)) (hl : 0 < ls.length) (hl2 : ls.length < 2000000) (hn : n = ls.length)
    (hK : ∀ k : Int, k ∈ ls → K ⟨putA s.t dst (.int .i64 k), upd s.h 1000 (some (rdOb bs (p + 1))), s.u⟩) : callA Go.Proofs.Tryz.prog 98 [.ptr 1000 0 0, .sl id 0 n] dst s K := by
  subst hn
  refine callA_wh [(1000, .whole 1000), (1001, .whole id)] (by kernel_rfl) (numC bs p ls hp hb hl hl2) (by simp) (by simp; omega) (by simp [hr, ho]; exact rowsMt_cl rfl (by simp [i64Ob, i64Row])) (by simp) (by simp [hr, ho]) ?_
  rintro r L' ⟨k, hk, rfl, rfl⟩
  refine ⟨[], ⟨by simp, by simp, by simp, by simp, by simp⟩, ?_⟩
  have e : (afterS s [(1000, .whole 1000), (1001, .whole id)] [] dst (.int .i64 k) [(1000, rdOb bs (p + 1)), (1001, i64Ob ls)]) = ⟨putA s.t dst (.int .i64 k), upd s.h 1000 (some (rdOb bs (p + 1))), s.u⟩ := by
    simp only [afterS]
    congr 1
    · funext i
      have hren : ∀ ρ, renOb ρ (i64Ob ls) = i64Ob ls := fun ρ => by simp [i64Ob, renOb, i64Row, Function.comp_def]
      simp [hren]
      by_cases h1 : i = id
      · subst h1; simp [hid, ho]
      · by_cases h2 : i = 1000 <;> simp [h1, h2]
    · exact Us.app_nil _
  rw [e]; exact hK k hk
theorem callOf {bs : List UInt8} {p : Int} (ls : List (List UInt8)) {id n : Nat} (hp : 0 ≤ p ∧ p < 1000000000) (hb : bs.length ≤ 2000) {s : S} {dst : Option Nat} {K : S → Prop} (hr : s.h 1000 = some (rdOb bs p)) (hid : id ≠ 1000)
    (ho : s.h id = some (strOb ls)) (hl : 0 < ls.length) (hl2 : ls.length < 2000000) (hn : n = ls.length)
    (hK : ∀ k : List UInt8, k ∈ ls → K ⟨putA s.t dst (.str k), upd s.h 1000 (some (rdOb bs (p + 1))), s.u⟩) : callA Go.Proofs.Tryz.prog 77 [.ptr 1000 0 0, .sl id 0 n] dst s K := by
  subst hn
  refine callA_wh [(1000, .whole 1000), (1001, .whole id)] (by kernel_rfl) (ofC bs p ls hp hb hl hl2) (by simp) (by simp; omega) (by simp [hr, ho]; exact rowsMt_cl rfl (by simp [strOb, strRow])) (by simp) (by simp [hr, ho]) ?_
  rintro r L' ⟨k, hk, rfl, rfl⟩
  refine ⟨[], ⟨by simp, by simp, by simp, by simp, by simp⟩, ?_⟩
  have e : (afterS s [(1000, .whole 1000), (1001, .whole id)] [] dst (.str k) [(1000, rdOb bs (p + 1)), (1001, strOb ls)]) = ⟨putA s.t dst (.str k), upd s.h 1000 (some (rdOb bs (p + 1))), s.u⟩ := by
    simp only [afterS]
    congr 1
    · funext i
      have hren : ∀ ρ, renOb ρ (strOb ls) = strOb ls := fun ρ => by simp [strOb, renOb, strRow, Function.comp_def]
      simp [hren]
      by_cases h1 : i = id
      · subst h1; simp [hid, ho]
      · by_cases h2 : i = 1000 <;> simp [h1, h2]
    · exact Us.app_nil _
  rw [e]; exact hK k hk
theorem isU8_wrap (x : Int) : isU8 [.int .u8 (IntKind.u8.wrap x)] = true := by
  have h : IntKind.u8.wrap x = x % 256 := rfl
  simp [isU8, h]
  try omega
def kinds0 : List Int := [1, 1, 2, 3, 3, 3, 3, 3, 3, 3, 4, 4, 5, 6]
def texts0 : List (List UInt8) := [[120], [121], [122, 122], [111, 110, 101], [97, 122, 122], [98, 120, 108], [], [120], [97, 32, 98], [49, 50, 51, 52, 53, 54, 55, 56, 57, 48, 49, 50, 51, 52, 53, 54, 55, 56, 57, 48]]
theorem opC (bs : List UInt8) (p : Int) (bk' : List BS) (hp : 0 ≤ p ∧ p < 900000000) (hb : bs.length ≤ 2000) (hl : bk'.length < 2000000) (hB : ∀ b ∈ bk', b.bl.length = 8 ∧ b.name.length ≤ 24 ∧ b.frm.length ≤ 24) :
    ACall Go.Proofs.Tryz.prog 100 [.ptr 1000 0 0, bk bk'] [(1000, rdOb bs p)] (opR bs p) := by
  refine acv func100 [(5, [⟨0, [], [], [], []⟩, ⟨1, [3], [], [], []⟩, ⟨2, [], [3], [], []⟩, ⟨3, [], [3], [], []⟩, ⟨4, [3], [3], [], []⟩, ⟨5, [], [3], [], []⟩, ⟨6, [], [3], [], []⟩, ⟨7, [], [], [], []⟩, ⟨8, [], [], [], []⟩, ⟨9, [], [], [], []⟩, ⟨10, [], [], [], []⟩, ⟨11, [], [], [], []⟩]), (7, [⟨0, [], [], [], []⟩, ⟨1, [3], [], [], []⟩, ⟨2, [], [3], [], []⟩, ⟨3, [], [3], [], []⟩, ⟨4, [3], [3], [], []⟩, ⟨5, [], [3], [], []⟩, ⟨6, [], [3], [9], []⟩, ⟨7, [], [], [], []⟩, ⟨8, [], [], [], []⟩, ⟨9, [], [3], [], []⟩, ⟨10, [], [], [], []⟩])] ntmps100 rfl rfl rfl ?_
  refine va_seq (va_of_ev _ ?_)
  simp [bk]
  refine va_cut [0, 3, 4, 5] (oSt bs (bk'.map BS.row)) (oGd p 5) ?_ ?_
  · simp
    refine callNum (p := p) kinds0 (by omega) hb (by simp) (by omega) (by simp [i64Ob, kinds0, i64Row]) (by simp [kinds0]) (by simp [kinds0]) (by simp [kinds0]) fun k1 hk1 => ?_
    simp
    refine callName (p := p + 1) (by omega) hb (by simp) fun k2 hk2 => ?_
    simp
    refine callName (p := p + 1 + 1) (by omega) hb (by simp) fun k3 hk3 => ?_
    simp
    refine callPick (p := p + 1 + 1 + 1) (by omega) hb (by simp) fun k4 hk4 _ => ?_
    simp
    refine callOf (p := p + 1 + 1 + 1 + 1) texts0 (by omega) hb (by simp) (by omega) (by simp [strOb, texts0, strRow]) (by simp [texts0]) (by simp [texts0]) (by simp [texts0]) fun k5 hk5 => ?_
    simp
    refine cutX_of (p + 1 + 1 + 1 + 1 + 1, ⟨k1, k2, k3, k4, k5⟩) ⟨by simp only; omega, by simp only; omega, hk2, hk3⟩ [(1000, 1000), (3, 3), (4, 4), (5, 5)] (by simp [canonOk]) ?_
    simp [canon, oSt, obOf, opOb, BO.row]
  rintro ⟨q, o⟩ ⟨h1, h2, h3, h4⟩
  simp only at h1 h2 h3 h4
  refine va_cut [0, 3, 4, 5] (oSt bs (bk'.map BS.row)) (oGd p 8) ?_ ?_
  · simp [oSt, opOb, BO.row]
    refine callPick (p := q) (by omega) hb (by simp) fun k1 hk1 _ => ?_
    have hk1 := hk1 (by omega)
    by_cases g1 : k1 = 0
    · simp [g1]
      refine callPick (p := q + 1) (by omega) hb (by simp) fun k2 hk2 _ => ?_
      simp
      refine callPick (p := q + 1 + 1) (by omega) hb (by simp) fun k3 hk3 _ => ?_
      simp
      simp only [isU8_wrap, true_and]
      refine cutX_of (q + 1 + 1 + 1, { o with text := [byteOf [.int .u8 (IntKind.u8.wrap (IntKind.i64.wrap (65 + k2)))], byteOf [.int .u8 (IntKind.u8.wrap (IntKind.i64.wrap (48 + k3)))]] }) ⟨by simp only; omega, by simp only; omega, h3, h4⟩ [(1000, 1000), (3, 3), (4, 4), (5, 5)] (by simp [canonOk]) (by simp [canon, oSt, obOf, opOb, BO.row])
    · simp [g1]
      refine cutX_of (q + 1, o) ⟨by simp only; omega, by simp only; omega, h3, h4⟩ [(1000, 1000), (3, 3), (4, 4), (5, 5)] (by simp [canonOk]) (by simp [canon, oSt, obOf, opOb, BO.row])
  rintro ⟨q, o⟩ ⟨h1, h2, h3, h4⟩
  simp only at h1 h2 h3 h4
  have nth : ∀ k : Int, 0 ≤ k → k < bk'.length → ∃ b, bk'[k.toNat]? = some b ∧ b ∈ bk' ∧ k.toNat < bk'.length := fun k hk1 hk2 => by
    have : k.toNat < bk'.length := by omega
    exact ⟨bk'[k.toNat], List.getElem?_eq_getElem this, List.getElem_mem _, this⟩
  refine va_cut [0, 3, 4, 5] (oSt bs (bk'.map BS.row)) (oGd p 10) ?_ ?_
  · by_cases e0 : bk' = []
    · subst e0
      simp [oSt, opOb, BO.row]
      exact cutX_of (q, o) ⟨by simp only; omega, by simp only; omega, h3, h4⟩ [(1000, 1000), (3, 3), (4, 4), (5, 5)] (by simp [canonOk]) (by simp [canon, oSt, obOf, opOb, BO.row])
    have hlen : 0 < bk'.length := List.length_pos_iff.2 e0
    by_cases e1 : o.kind = 1
    · simp [oSt, opOb, BO.row, e0, e1, hlen]
      exact cutX_of (q, o) ⟨by simp only; omega, by simp only; omega, h3, h4⟩ [(1000, 1000), (3, 3), (4, 4), (5, 5)] (by simp [canonOk]) (by simp [canon, oSt, obOf, opOb, BO.row, e1])
    simp [oSt, opOb, BO.row, e0, e1, hlen]
    refine callPick (p := q) (by omega) hb (by simp) fun k1 hk1 _ => ?_
    have hk1 := hk1 (by omega)
    by_cases g1 : 0 < k1
    · simp [g1]
      refine callPick (p := q + 1) (by omega) hb (by simp) fun k2 hk2 _ => ?_
      have hk2 := hk2 (by omega)
      obtain ⟨b, b1, b2, b3⟩ := nth k2 hk2.1 hk2.2
      have b0 : bk'[k2.toNat] = b := (List.getElem?_eq_some_iff.1 b1).2
      have b8 := hB b b2
      simp [b1, b3, b0, row_len _ b8.1]
      refine ⟨hk2, cutX_of (q + 1 + 1, { o with a := b.name }) ⟨by simp only; omega, by simp only; omega, b8.2.1, h4⟩ [(1000, 1000), (3, 3), (4, 4), (5, 5)] (by simp [canonOk]) (by simp [canon, oSt, obOf, opOb, BO.row])⟩
    · simp [g1]
      exact cutX_of (q + 1, o) ⟨by simp only; omega, by simp only; omega, h3, h4⟩ [(1000, 1000), (3, 3), (4, 4), (5, 5)] (by simp [canonOk]) (by simp [canon, oSt, obOf, opOb, BO.row, e1])
  rintro ⟨q, o⟩ ⟨h1, h2, h3, h4⟩
  simp only at h1 h2 h3 h4
  refine va_cut [0, 3, 4, 5] (oSt bs (bk'.map BS.row)) (oGd p 12) ?_ ?_
  · by_cases e0 : bk' = []
    · subst e0
      simp [oSt, opOb, BO.row]
      by_cases e1 : o.kind = 6
      · simp [e1]
        exact cutX_of (q, o) ⟨by simp only; omega, by simp only; omega, h3, h4⟩ [(1000, 1000), (3, 3), (4, 4), (5, 5)] (by simp [canonOk]) (by simp [canon, oSt, obOf, opOb, BO.row, e1])
      · simp [e1]
        exact cutX_of (q, o) ⟨by simp only; omega, by simp only; omega, h3, h4⟩ [(1000, 1000), (3, 3), (4, 4), (5, 5)] (by simp [canonOk]) (by simp [canon, oSt, obOf, opOb, BO.row])
    have hlen : 0 < bk'.length := List.length_pos_iff.2 e0
    by_cases e1 : o.kind = 6
    rotate_left
    · simp [oSt, opOb, BO.row, e0, e1, hlen]
      exact cutX_of (q, o) ⟨by simp only; omega, by simp only; omega, h3, h4⟩ [(1000, 1000), (3, 3), (4, 4), (5, 5)] (by simp [canonOk]) (by simp [canon, oSt, obOf, opOb, BO.row])
    simp [oSt, opOb, BO.row, e0, e1, hlen]
    refine callPick (p := q) (by omega) hb (by simp) fun k1 hk1 _ => ?_
    have hk1 := hk1 (by omega)
    by_cases g1 : 0 < k1
    · simp [g1]
      refine callPick (p := q + 1) (by omega) hb (by simp) fun k2 hk2 _ => ?_
      have hk2 := hk2 (by omega)
      obtain ⟨b, b1, b2, b3⟩ := nth k2 hk2.1 hk2.2
      have b0 : bk'[k2.toNat] = b := (List.getElem?_eq_some_iff.1 b1).2
      have b8 := hB b b2
      simp [b1, b3, b0, row_len _ b8.1, row_take _ b8.1]
      refine ⟨hk2, row_all b, cutX_of (q + 1 + 1, { o with a := b.frm, b := b.name }) ⟨by simp only; omega, by simp only; omega, b8.2.2, b8.2.1⟩ [(1000, 1000), (3, 3), (4, 4), (5, 5)] (by simp [canonOk]) (by simp [canon, oSt, obOf, opOb, BO.row, e1])⟩
    · simp [g1]
      exact cutX_of (q + 1, o) ⟨by simp only; omega, by simp only; omega, h3, h4⟩ [(1000, 1000), (3, 3), (4, 4), (5, 5)] (by simp [canonOk]) (by simp [canon, oSt, obOf, opOb, BO.row, e1])
  rintro ⟨q, o⟩ ⟨h1, h2, h3, h4⟩
  simp only at h1 h2 h3 h4
  refine va_cut [0, 3, 4, 5] (oSt bs (bk'.map BS.row)) (oGd p 20) ?_ ?_
  · simp [oSt, opOb, BO.row]
    refine callPick (p := q) (by omega) hb (by simp) fun k1 hk1 _ => ?_
    by_cases k0 : k1 = 0
    · simp [k0]
      refine callNum (p := q + 1) [0, 7, -1] (by omega) hb (by simp) (by omega) (by simp [i64Ob, i64Row]) (by simp) (by simp) (by simp) fun k2 hk2 => ?_
      simp
      exact cutX_of (q + 1 + 1, { o with kind := k2 }) ⟨by simp only; omega, by simp only; omega, h3, h4⟩ [(1000, 1000), (3, 3), (4, 4), (5, 5)] (by simp [canonOk]) (by simp [canon, oSt, obOf, opOb, BO.row])
    by_cases k0' : k1 = 1
    · simp [k0']
      refine callNum (p := q + 1) [-1, 8] (by omega) hb (by simp) (by omega) (by simp [i64Ob, i64Row]) (by simp) (by simp) (by simp) fun k2 hk2 => ?_
      simp
      exact cutX_of (q + 1 + 1, { o with i := k2 }) ⟨by simp only; omega, by simp only; omega, h3, h4⟩ [(1000, 1000), (3, 3), (4, 4), (5, 5)] (by simp [canonOk]) (by simp [canon, oSt, obOf, opOb, BO.row])
    by_cases k0'' : k1 = 2
    · simp [k0'']
      refine callPick (p := q + 1) (by omega) hb (by simp) fun k2 hk2 _ => ?_
      have hk2 := hk2 (by omega)
      have w : IntKind.i64.wrap (24 + k2) = 24 + k2 := i64_in' _ (by omega)
      simp [w]
      refine callA_ex (R := fun r => ∃ t, r = .str t) (by kernel_rfl) ((manyC [120] (24 + k2) (by omega) (by simp)).mono fun r L' ⟨t, h1, h2⟩ => ⟨⟨t, h1⟩, by rw [h1]; rfl, h2⟩) (by simp) ?_
      rintro v ⟨t, rfl⟩
      simp
      exact cutX_of (q + 1 + 1, { o with text := t }) ⟨by simp only; omega, by simp only; omega, h3, h4⟩ [(1000, 1000), (3, 3), (4, 4), (5, 5)] (by simp [canonOk]) (by simp [canon, oSt, obOf, opOb, BO.row])
    by_cases k3 : k1 = 3
    · simp [k3]
      refine callOf (p := q + 1) [[], [65], [97, 98, 99, 100, 101, 102, 103]] (by omega) hb (by simp) (by omega) (by simp [strOb, strRow]) (by simp) (by simp) (by simp) fun k2 hk2 => ?_
      simp
      have hk2 : k2.length ≤ 24 := by
        simp only [List.mem_cons, List.not_mem_nil, or_false] at hk2
        rcases hk2 with rfl | rfl | rfl <;> simp
      exact cutX_of (q + 1 + 1, { o with a := k2 }) ⟨by simp only; omega, by simp only; omega, hk2, h4⟩ [(1000, 1000), (3, 3), (4, 4), (5, 5)] (by simp [canonOk]) (by simp [canon, oSt, obOf, opOb, BO.row])
    by_cases k4 : k1 = 4
    · simp [k4]
      refine callOf (p := q + 1) [[], [66], [97, 98, 99, 100, 101, 102, 103]] (by omega) hb (by simp) (by omega) (by simp [strOb, strRow]) (by simp) (by simp) (by simp) fun k2 hk2 => ?_
      simp
      have hk2 : k2.length ≤ 24 := by
        simp only [List.mem_cons, List.not_mem_nil, or_false] at hk2
        rcases hk2 with rfl | rfl | rfl <;> simp
      exact cutX_of (q + 1 + 1, { o with b := k2 }) ⟨by simp only; omega, by simp only; omega, h3, hk2⟩ [(1000, 1000), (3, 3), (4, 4), (5, 5)] (by simp [canonOk]) (by simp [canon, oSt, obOf, opOb, BO.row])
    simp [k0, k0', k0'', k3, k4]
    exact cutX_of (q + 1, o) ⟨by simp only; omega, by simp only; omega, h3, h4⟩ [(1000, 1000), (3, 3), (4, 4), (5, 5)] (by simp [canonOk]) (by simp [canon, oSt, obOf, opOb, BO.row])
  rintro ⟨q, o⟩ ⟨h1, h2, h3, h4⟩
  simp only at h1 h2 h3 h4
  refine va_of_ev _ ?_
  simp [oSt, opOb, BO.row]
  exact ⟨[(1000, rdOb bs q)], by simp, o, q, ⟨h3, h4⟩, h1, by omega, rfl, rfl⟩
end Go.Av.F
end
section
namespace Go.Av.F
open Go Go.Av
open Go.Proofs Go.Proofs.Tryz
attribute [-simp] getU hdS canon canonOk i64w
set_option linter.unusedSimpArgs false
set_option linter.unusedVariables false
set_option maxRecDepth 100000
attribute [local simp] tt3 tt4 tt9 tt5 tt22 tt40 tt38 tt52 tt50 tt57 tt95 tt26
@[simp] theorem mtL_bo (hv : Hp) (ids : List Nat) (ρ : Nat → Option Plc) (o : BO) : mtL hv ids ρ (BO.row o) (BO.row o) := mtL_cl _ (by simp [BO.row])
def BkG (bs : List BS) : Prop := ∀ b ∈ bs, b.bl.length = 8 ∧ b.name.length ≤ 24 ∧ b.frm.length ≤ 24
theorem newB_gd {bs : List BS} {s : BS} (h : BkG bs) (hs : s.bl.length = 8 ∧ s.name.length ≤ 24 ∧ s.frm.length ≤ 24) : BkG (newB bs s).1 := fun b hb => by
  rcases newB_mem hb with h1 | rfl
  · exact h b h1
  · exact hs
theorem doB_gd {bs : List BS} {o : BO} (h : BkG bs) (ho : OpG o) : BkG (doB bs o).1 := by
  have hg : ∀ (i : Nat) t, bs[i]? = some t → t.bl.length = 8 ∧ t.name.length ≤ 24 ∧ t.frm.length ≤ 24 := fun i t ht => h _ (List.mem_of_getElem? ht)
  unfold doB
  split
  · exact newB_gd h ⟨rfl, ho.1, by simp⟩
  · split
    · exact h
    · split
      · exact h
      · split
        · rename_i t ht
          have := hg _ _ ht
          split
          · unfold killB
            split
            · split
              · exact h
              · intro b hb
                simp only [List.mem_append] at hb
                rcases hb with hb | hb
                · exact h _ (List.mem_of_mem_take hb)
                · exact h _ (List.mem_of_mem_drop hb)
            · exact h
          · split
            · unfold putB
              split
              · rename_i t2 ht2
                have := hg _ _ ht2
                split
                · exact h
                · split
                  · exact h
                  · intro b hb
                    rcases mem_set hb with hb | rfl
                    · exact h _ hb
                    · exact ⟨by simp [this.1], this.2⟩
              · exact h
            · split
              · unfold backB
                split
                · rename_i t2 ht2
                  have h2 := hg _ _ ht2
                  split
                  · exact h
                  · split
                    · rename_i u hu
                      have h3 := hg _ _ hu
                      split
                      · exact h
                      · intro b hb
                        rcases mem_set hb with hb | rfl
                        · exact h _ hb
                        · exact ⟨h3.1, h2.2⟩
                    · exact h
                · exact h
              · split
                · split
                  · exact h
                  · exact newB_gd h ⟨this.1, ho.2, this.2.1⟩
                · split
                  · exact h
                  · exact newB_gd h ⟨this.1, ho.2, this.2.1⟩
        · exact h
def plA (bs : List UInt8) (n : Int) (x : Nat × Int × List BS) : S :=
  ⟨mkT [(0, .ptr 1000 0 0), (1, .int .i64 n), (4, .ptr 4 0 0), (5, .ptr 5 0 0), (6, .int .i64 x.1)], hpOf [(1000, rdOb bs x.2.1), (4, ⟨1, [[.nils]]⟩), (5, ⟨1, [[.lst 11 (x.2.2.map BS.row)]]⟩)], Us.of [1000, 1000, 4, 5]⟩
def plB (bs : List UInt8) (n : Int) (x : Nat × Int × List BS) : S :=
  ⟨mkT [(0, .ptr 1000 0 0), (1, .int .i64 n), (4, .ptr 4 0 0), (5, .ptr 5 0 0), (6, .int .i64 x.1)], hpOf [(1000, rdOb bs x.2.1), (4, ⟨1, [[.nils]]⟩), (5, ⟨1, [[.sl 901 0 x.2.2.length]]⟩), (901, bkOb x.2.2)], Us.of [1000, 1000, 4, 5, 901]⟩
def plSt (bs : List UInt8) (n : Int) (x : Nat × Int × List BS) : S := if (x.1 : Int) < n then plA bs n x else plB bs n x
def plR (bs : List UInt8) (p n : Int) (r : AV) (L' : List (Nat × Ob)) : Prop := ∃ (q : Int) (b : List BS), p ≤ q ∧ q ≤ p + 20 * n ∧ BkG b ∧ b.length ≤ n ∧ ((b = [] ∧ r = .agg [.nils] ∧ L' = [(1000, rdOb bs q)]) ∨ (r = .agg [.sl 901 0 b.length] ∧ L' = [(1000, rdOb bs q), (901, bkOb b)]))
theorem playedC (bs : List UInt8) (p n : Int) (hp : 0 ≤ p ∧ p < 800000000) (hn : 0 ≤ n ∧ n ≤ 1000) (hb : bs.length ≤ 2000) :
    ACall Go.Proofs.Tryz.prog 50 [.ptr 1000 0 0, .int .i64 n] [(1000, rdOb bs p)] (plR bs p n) := by
  refine acx func50 [(5, [⟨0, [5], [], [], []⟩, ⟨2, [], [5], [], []⟩, ⟨3, [5], [5], [], []⟩, ⟨1, [], [5], [], []⟩, ⟨4, [], [], [], []⟩, ⟨5, [], [], [], []⟩, ⟨6, [], [], [], []⟩, ⟨7, [], [], [], []⟩, ⟨8, [], [], [], []⟩, ⟨9, [], [], [], []⟩])] ntmps50 rfl rfl rfl ?_
  by_cases hn0 : n = 0
  · subst hn0
    simp
    refine ev_loopX (X := Unit) [0, 1, 4, 5, 6] (fun _ => ⟨mkT [(0, .ptr 1000 0 0), (1, .int .i64 0), (4, .ptr 4 0 0), (5, .ptr 5 0 0), (6, .int .i64 0)], hpOf [(1000, rdOb bs p), (4, ⟨1, [[.nils]]⟩), (5, ⟨1, [[.nils]]⟩)], Us.of [1000, 1000, 4, 5]⟩) (fun _ => 0) (fun _ => True) () ⟨trivial, [(1000, 1000), (4, 4), (5, 5)], by simp [canonOk], by simp [canon, obOf]⟩ ?_
    rintro _ _
    simp
    exact ⟨[(1000, rdOb bs p)], by simp, p, [], by omega, by omega, by simp [BkG], by simp, .inl ⟨rfl, rfl, rfl⟩⟩
  simp
  refine ev_loopW (X := Nat × Int × List BS) (plSt bs n) (fun x => n.toNat - x.1)
    (fun x => x.1 ≤ n.toNat ∧ p ≤ x.2.1 ∧ x.2.1 ≤ p + 20 * x.1 ∧ BkG x.2.2 ∧ x.2.2.length ≤ x.1) (0, p, [])
    ⟨⟨by simp, by simp, by simp, by simp [BkG], by simp⟩, ?_⟩ ?_
  · rw [show plSt bs n (0, p, []) = plA bs n (0, p, []) from if_pos (by simp only; omega)]
    exact (sw_imp1 5 (a := .nils) (b := .lst 11 []) (by simp) (impA_nils 11)).trans (sw_can [0, 1, 4, 5, 6] [(1000, 1000), (4, 4), (5, 5)] (by simp [canonOk]) (by simp [canon, obOf, plA]))
  rintro ⟨i, q, b⟩ ⟨h1, h2, h3, hb4⟩
  simp only at h1 h2 h3 hb4
  by_cases hi : (i : Int) < n
  rotate_left
  · have hni : (i : Int) = n := by omega
    rw [show plSt bs n (i, q, b) = plB bs n (i, q, b) from if_neg (by simp only; omega)]
    simp [plB, hi]
    exact ⟨[(1000, rdOb bs q), (901, bkOb b)], by simp, q, b, h2, by omega, hb4.1, by omega, .inr ⟨rfl, rfl⟩⟩
  rw [show plSt bs n (i, q, b) = plA bs n (i, q, b) from if_pos (by simp only; omega)]
  have e2 : IntKind.i64.wrap ((i : Int) + 1) = ((i + 1 : Nat) : Int) := by rw [i64_in' _ (by omega)]; omega
  simp [plA, hi]
  refine callA_wh [] (by kernel_rfl) (copyC b (by omega)) (by simp [bk]) (by simp) (by simp) (by simp) (by simp) ?_
  rintro r L' ⟨rfl, rfl⟩
  refine ⟨[(6, 902)], ⟨by simp, by simp, by simp, by simp, by simp⟩, ?_⟩
  simp
  refine callA_wh [(1000, .whole 1000)] (by kernel_rfl) (opC bs q b (by omega) hb (by omega) hb4.1) (by simp [bk]) (by simp) (by simp) (by simp) (by simp) ?_
  rintro r L' ⟨o, q', ho, g1, g2, rfl, rfl⟩
  refine ⟨[], ⟨by simp, by simp, by simp, by simp, by simp⟩, ?_⟩
  simp
  have hd := doC b o (by omega) (fun x hx => (hb4.1 x hx).1) (fun x hx => by have := (hb4.1 x hx).2.1; omega) ⟨by have := ho.1; omega, by have := ho.2; omega⟩
  have hgd := doB_gd hb4.1 ho
  have hdl := doB_len b o
  generalize doB b o = res at hd hgd hdl
  refine callA_wh [(1000, .whole 902)] (by kernel_rfl) hd (by simp) (by simp) (by simp [bkOb]; exact rowsMt_cl rfl (by simp [clR])) (by simp) (by simp) ?_
  rintro r L' ⟨id, hid, rfl, rfl⟩
  simp only [List.mem_cons, List.not_mem_nil, or_false] at hid
  rcases hid with rfl | rfl
  · refine ⟨[], ⟨by simp, by simp, by simp, by simp, by simp⟩, ?_⟩
    simp [e2]
    refine nextW_of (i + 1, q', res.1) (by simp only; omega) ⟨by simp only; omega, by simp only; omega, by simp only; omega, hgd, by simp only; omega⟩ ?_
    by_cases hi2 : ((i + 1 : Nat) : Int) < n
    · rw [show plSt bs n (i + 1, q', res.1) = plA bs n (i + 1, q', res.1) from if_pos hi2]
      exact sw_fr 902 (o := bkOb res.1) (by simp [bkOb]) (by simp) (by simp) (by simp) [0, 1, 4, 5, 6] [(1000, 1000), (4, 4), (5, 5)] (by simp [canonOk]) (by simp [canon, plA, obOf, bkOb, rdOb, e2])
    · rw [show plSt bs n (i + 1, q', res.1) = plB bs n (i + 1, q', res.1) from if_neg hi2]
      exact sw_can [0, 1, 4, 5, 6] [(1000, 1000), (4, 4), (5, 5), (902, 901)] (by simp [canonOk]) (by simp [canon, plB, obOf, bkOb, rdOb, e2])
  · refine ⟨[(900, 903)], ⟨by simp, by simp, by simp, by simp, by simp⟩, ?_⟩
    simp [e2]
    refine nextW_of (i + 1, q', res.1) (by simp only; omega) ⟨by simp only; omega, by simp only; omega, by simp only; omega, hgd, by simp only; omega⟩ ?_
    by_cases hi2 : ((i + 1 : Nat) : Int) < n
    · rw [show plSt bs n (i + 1, q', res.1) = plA bs n (i + 1, q', res.1) from if_pos hi2]
      exact sw_fr 903 (o := bkOb res.1) (by simp [bkOb]) (by simp) (by simp) (by simp) [0, 1, 4, 5, 6] [(1000, 1000), (4, 4), (5, 5)] (by simp [canonOk]) (by simp [canon, plA, obOf, bkOb, rdOb, e2])
    · rw [show plSt bs n (i + 1, q', res.1) = plB bs n (i + 1, q', res.1) from if_neg hi2]
      exact sw_can [0, 1, 4, 5, 6] [(1000, 1000), (4, 4), (5, 5), (903, 901)] (by simp [canonOk]) (by simp [canon, plB, obOf, bkOb, rdOb, e2])
end Go.Av.F
end
section
namespace Go.Av.F
open Go Go.Av
open Go.Proofs Go.Proofs.Tryz
attribute [-simp] getU hdS canon canonOk i64w
set_option linter.unusedSimpArgs false
set_option linter.unusedVariables false
set_option maxRecDepth 100000
attribute [local simp] tt3 tt4 tt9 tt5 tt22 tt40 tt38 tt52 tt50 tt57 tt95 tt26
def bookR (bs : List UInt8) (p : Int) (r : AV) (L' : List (Nat × Ob)) : Prop := ∃ (q : Int) (b : List BS), p ≤ q ∧ q ≤ p + 1000 ∧ BkG b ∧ b.length ≤ 100 ∧
  ((b = [] ∧ r = .agg [.nils] ∧ L' = [(1000, rdOb bs q)]) ∨ ∃ id, (id = 69 ∨ id = 901) ∧ r = .agg [.sl id 0 b.length] ∧ L' = [(1000, rdOb bs q), (id, bkOb b)])
theorem gd_set {bs : List BS} {k : Nat} {t : BS} (h : BkG bs) (ht : t.bl.length = 8 ∧ t.name.length ≤ 24 ∧ t.frm.length ≤ 24) : BkG (bs.set k t) := fun b hb => by
  rcases mem_set hb with hb | rfl
  · exact h b hb
  · exact ht
@[simp] theorem row_drop1 (t : BS) : (BS.row t).drop 1 = .int .i64 t.kind :: .str t.frm :: t.bl.map .str := rfl
@[simp] theorem row_drop2 (t : BS) : (BS.row t).drop 2 = .str t.frm :: t.bl.map .str := rfl
@[simp] theorem row_take1 (t : BS) : (BS.row t).take 1 = [.str t.name] := rfl
@[simp] theorem row_take2 (t : BS) : (BS.row t).take 2 = [.str t.name, .int .i64 t.kind] := rfl
@[simp] theorem row_take3 (t : BS) : (BS.row t).take 3 = [.str t.name, .int .i64 t.kind, .str t.frm] := rfl
theorem bookC (bs : List UInt8) (p : Int) (hp : 0 ≤ p ∧ p < 700000000) (hb : bs.length ≤ 2000) :
    ACall Go.Proofs.Tryz.prog 47 [.ptr 1000 0 0] [(1000, rdOb bs p)] (bookR bs p) := by
  refine acx func47 [(9, [⟨0, [], [], [], []⟩, ⟨1, [3], [], [], []⟩, ⟨2, [], [3], [], []⟩, ⟨3, [], [3], [], []⟩, ⟨4, [3], [3], [], []⟩, ⟨5, [], [3], [], []⟩, ⟨6, [901], [3], [], []⟩, ⟨7, [], [3], [], []⟩, ⟨8, [901], [3], [], []⟩, ⟨9, [], [3], [], []⟩, ⟨10, [901], [], [], []⟩, ⟨11, [], [], [], []⟩, ⟨12, [], [], [], []⟩]), (11, [⟨0, [], [], [], []⟩, ⟨1, [3], [], [], []⟩, ⟨2, [], [3], [], []⟩, ⟨3, [], [3], [], []⟩, ⟨4, [], [3], [], []⟩, ⟨5, [3], [3], [], []⟩, ⟨6, [], [3], [], []⟩, ⟨7, [901], [3], [], []⟩, ⟨8, [], [3], [], []⟩, ⟨9, [901], [3], [], []⟩, ⟨10, [], [3], [], []⟩, ⟨11, [], [3], [], []⟩, ⟨12, [901], [], [], []⟩, ⟨13, [], [], [], []⟩, ⟨14, [], [], [], []⟩]), (13, [⟨0, [], [], [], []⟩, ⟨1, [3], [], [], []⟩, ⟨2, [], [3], [], []⟩, ⟨3, [3], [3], [], []⟩, ⟨4, [], [3], [], []⟩, ⟨5, [901], [3], [], []⟩, ⟨6, [901], [3], [], []⟩, ⟨7, [], [3], [], []⟩, ⟨8, [], [], [], []⟩, ⟨9, [], [], [], []⟩, ⟨10, [], [], [], []⟩]), (15, [⟨0, [], [], [], []⟩, ⟨1, [3], [], [], []⟩, ⟨2, [], [3], [], []⟩, ⟨4, [901], [], [], []⟩, ⟨5, [], [], [], []⟩, ⟨3, [], [3, 901], [], []⟩, ⟨6, [], [], [], []⟩, ⟨7, [], [], [], []⟩])] ntmps47 rfl rfl rfl ?_
  simp
  refine callNum (p := p) [0, 4, 10, 20, 35] (by omega) hb (by simp) (by omega) (by simp [i64Ob, i64Row]) (by simp) (by simp) (by simp) fun n hn => ?_
  have hn : 0 ≤ n ∧ n ≤ 35 := by
    simp only [List.mem_cons, List.not_mem_nil, or_false] at hn
    omega
  simp
  refine callA_wh [(1000, .whole 1000)] (by kernel_rfl) (playedC bs (p + 1) n (by omega) (by omega) hb) (by simp) (by simp) (by simp) (by simp) (by simp) ?_
  rintro r L' ⟨q, b, h1, h2, h3, h4, ⟨h0, rfl, rfl⟩ | ⟨rfl, rfl⟩⟩
  · refine ⟨[], ⟨by simp, by simp, by simp, by simp, by simp⟩, ?_⟩
    simp
    exact ⟨[(1000, rdOb bs q)], by simp, q, [], by omega, by omega, by simp [BkG], by simp, .inl ⟨rfl, rfl, rfl⟩⟩
  refine ⟨[(901, 901)], ⟨by simp, by simp, by simp, by simp, by simp⟩, ?_⟩
  by_cases hb0 : b = []
  · subst hb0
    simp
    exact ⟨[(1000, rdOb bs q), (901, bkOb [])], by simp [bkOb], q, [], by omega, by omega, by simp [BkG], by simp, .inr ⟨901, .inr rfl, rfl, rfl⟩⟩
  have hlen : 0 < b.length := List.length_pos_iff.2 hb0
  simp [hb0]
  refine callPick (p := q) (by omega) hb (by simp) fun k hk _ => ?_
  have hk := hk (by omega)
  have hkl : k.toNat < b.length := by omega
  obtain ⟨t, t1⟩ : ∃ t, b[k.toNat]? = some t := ⟨_, List.getElem?_eq_getElem hkl⟩
  have t0 : b[k.toNat] = t := (List.getElem?_eq_some_iff.1 t1).2
  have tg := h3 t (List.mem_of_getElem? t1)
  simp
  refine callPick (p := q + 1) (by omega) hb (by simp) fun k1 _ _ => ?_
  have fin : ∀ (b' : List BS), BkG b' → b'.length ≤ 100 → ∀ q' : Int, p ≤ q' → q' ≤ p + 1000 → bookR bs p (.agg [.sl 901 0 b'.length]) [(1000, rdOb bs q'), (901, bkOb b')] := fun b' g1 g2 q' g3 g4 => ⟨q', b', g3, g4, g1, g2, .inr ⟨901, .inr rfl, rfl, rfl⟩⟩
  by_cases c0 : k1 = 0
  · simp [c0, hk, hkl, t0, t1, row_len _ tg.1]
    have hs : b.set k.toNat { t with name := [65] } = b.set k.toNat { t with name := [65] } := rfl
    have hg := gd_set (k := k.toNat) h3 (t := { t with name := [65] }) ⟨tg.1, by simp, tg.2.2⟩
    have := fin (b.set k.toNat { t with name := [65] }) hg (by simp; omega) (q + 1 + 1) (by omega) (by omega)
    rw [List.length_set] at this
    refine ⟨[(1000, rdOb bs (q + 1 + 1)), (901, bkOb (b.set k.toNat { t with name := [65] }))], ?_, this⟩
    simp [bkOb, List.map_set, BS.row]
  by_cases c1 : k1 = 1
  · simp [c1, hk, hkl, t0, t1, row_len _ tg.1]
    have hs : b.set k.toNat { t with kind := IntKind.i64.wrap (3 - t.kind) } = b.set k.toNat { t with kind := IntKind.i64.wrap (3 - t.kind) } := rfl
    have hg := gd_set (k := k.toNat) h3 (t := { t with kind := IntKind.i64.wrap (3 - t.kind) }) ⟨tg.1, tg.2.1, tg.2.2⟩
    have := fin (b.set k.toNat { t with kind := IntKind.i64.wrap (3 - t.kind) }) hg (by simp; omega) (q + 1 + 1) (by omega) (by omega)
    rw [List.length_set] at this
    refine ⟨[(1000, rdOb bs (q + 1 + 1)), (901, bkOb (b.set k.toNat { t with kind := IntKind.i64.wrap (3 - t.kind) }))], ?_, this⟩
    simp [bkOb, List.map_set, BS.row]
  by_cases c2 : k1 = 2
  · simp [c2, hk, hkl, t0, t1, row_len _ tg.1]
    refine callOf (p := q + 1 + 1) [[110, 111, 110, 101], t.name, [97]] (by omega) hb (by simp) (by omega) (by simp [strOb, strRow]) (by simp) (by simp) (by simp) fun x hx => ?_
    have hx : x.length ≤ 24 := by
      simp only [List.mem_cons, List.not_mem_nil, or_false] at hx
      rcases hx with rfl | rfl | rfl
      · simp
      · exact tg.2.1
      · simp
    simp [hk, hkl, t0, t1, row_len _ tg.1]
    have hs : b.set k.toNat { t with frm := x } = b.set k.toNat { t with frm := x } := rfl
    have hg := gd_set (k := k.toNat) h3 (t := { t with frm := x }) ⟨tg.1, tg.2.1, hx⟩
    have := fin (b.set k.toNat { t with frm := x }) hg (by simp; omega) (q + 1 + 1 + 1) (by omega) (by omega)
    rw [List.length_set] at this
    refine ⟨[(1000, rdOb bs (q + 1 + 1 + 1)), (901, bkOb (b.set k.toNat { t with frm := x }))], ?_, this⟩
    simp [bkOb, List.map_set, BS.row]
  by_cases c3 : k1 = 3
  · simp [c3, hk, hkl, t0, t1, row_len _ tg.1, row_take _ tg.1]
    refine ⟨⟨by omega, row_all t⟩, [(1000, rdOb bs (q + 1 + 1)), (69, bkOb (b ++ [t]))], by simp [bkOb], q + 1 + 1, b ++ [t], by omega, by omega, fun x hx => ?_, by simp; omega, .inr ⟨69, .inl rfl, by simp, rfl⟩⟩
    simp only [List.mem_append, List.mem_cons, List.not_mem_nil, or_false] at hx
    rcases hx with hx | rfl
    · exact h3 x hx
    · exact tg
  by_cases c4 : k1 = 4
  · simp [c4, hk, hkl, t0, t1, row_len _ tg.1]
    refine callA_ex (R := fun r => ∃ t, r = .str t) (by kernel_rfl) ((manyC [121] 25 (by omega) (by simp)).mono fun r L' ⟨t, h1, h2⟩ => ⟨⟨t, h1⟩, by rw [h1]; rfl, h2⟩) (by simp) ?_
    rintro v ⟨x, rfl⟩
    simp [hk, hkl, t0, t1, row_len _ tg.1]
    obtain ⟨y, r, hy⟩ : ∃ y r, t.bl = y :: r := by
      cases h : t.bl with
      | nil => have := tg.1; simp [h] at this
      | cons y r => exact ⟨y, r, rfl⟩
    have hs : b.set k.toNat { t with bl := t.bl.set 0 x } = b.set k.toNat { t with bl := t.bl.set 0 x } := rfl
    have hg := gd_set (k := k.toNat) h3 (t := { t with bl := t.bl.set 0 x }) ⟨by simp [tg.1], tg.2.1, tg.2.2⟩
    have := fin (b.set k.toNat { t with bl := t.bl.set 0 x }) hg (by simp; omega) (q + 1 + 1) (by omega) (by omega)
    rw [List.length_set] at this
    refine ⟨[(1000, rdOb bs (q + 1 + 1)), (901, bkOb (b.set k.toNat { t with bl := t.bl.set 0 x }))], ?_, this⟩
    simp [bkOb, List.map_set, BS.row, hy]
  simp [c0, c1, c2, c3, c4]
  exact ⟨[(1000, rdOb bs (q + 1 + 1)), (901, bkOb b)], by simp [bkOb], fin b h3 (by omega) (q + 1 + 1) (by omega) (by omega)⟩
end Go.Av.F
end
section
namespace Go.Av.F
open Go Go.Av
open Go.Proofs Go.Proofs.Tryz
attribute [-simp] getU hdS canon canonOk i64w
set_option linter.unusedSimpArgs false
set_option linter.unusedVariables false
set_option maxRecDepth 100000
attribute [local simp] tt3 tt4 tt9 tt5 tt22 tt40 tt38 tt52 tt50 tt57 tt95 tt26
end Go.Av.F
end
section
namespace Go.Av.F
open Go Go.Av
open Go.Proofs Go.Proofs.Tryz
attribute [-simp] getU hdS canon canonOk i64w
set_option linter.unusedSimpArgs false
set_option linter.unusedVariables false
theorem implOkC (bs : List BS) (hb : BkG bs) (hl : bs.length < 1500000) : ACall Go.Proofs.Tryz.prog 21 [bk bs] [] (fun r L' => r = .bool (bookOkB bs) ∧ L' = []) :=
  ok_eq bs ▸ ibookOkC bs (by omega) (fun b h => (hb b h).1) (fun b h => by have := (hb b h).2.1; omega)
theorem specOkC (bs : List BS) (hb : BkG bs) (hl : bs.length < 1500000) : ACall Go.Proofs.Tryz.prog 20 [bk bs] [] (fun r L' => r = .bool (bookOkB bs) ∧ L' = []) :=
  bookOkC bs (by omega) (fun b h => (hb b h).1) (fun b h => by have := (hb b h).2.1; omega)
end Go.Av.F
end
