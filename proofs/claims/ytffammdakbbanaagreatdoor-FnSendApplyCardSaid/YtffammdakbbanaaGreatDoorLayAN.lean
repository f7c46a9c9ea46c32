/- Lemmas for the proof, no statement of the seat; no conditions. -/
import Derived.Test.YtffammdakbbanaaGreatDoorLayAM
import Derived.Test.YtffammdakbbanaaGreatDoorProg
import Derived.Shelf.Small.Strs
import Derived.Shelf.Utf8.RuneCount
import Derived.Shelf.Strconv.Atoi
import Derived.Shelf.Strconv.Itoa0
import Derived.Shelf.Strconv.Itoa1
import Derived.Shelf.LaysM
import Derived.Shelf.Strconv.Itoa2
import Derived.Shelf.Strconv.Itoa3
import Derived.Shelf.Strconv.AtoiErrFast
import Derived.Shelf.Strconv.ParseIntEmpty
import Derived.Shelf.Strconv.AtoiFail
import Derived.Shelf.Strconv.Clone
import Derived.Shelf.Strconv.SyntaxError
import Derived.Shelf.LaysC
import Derived.Shelf.Strconv.ToError
import Derived.Shelf.Strconv.Lower
import Derived.Shelf.Strconv.ParseUint10
import Derived.Shelf.Strconv.ParseUint10Empty
import Derived.Shelf.Strconv.ParseUint10Any
import Derived.Shelf.Strconv.ParseInt10
import Derived.Shelf.Strconv.AtoiLong
import Derived.Shelf.Strconv.AtoiInnerAll
import Derived.Shelf.Strconv.RangeError
import Derived.Shelf.Strconv.ToErrorRange
import Derived.Shelf.Strconv.AtoiAll
import Derived.Shelf.Strings.Search1
import Derived.Shelf.Strings.Search2
import Derived.Shelf.Strings.Search3
import Derived.Shelf.Strings.Count
import Derived.Shelf.Strings.SplitShaped
import Derived.Shelf.Unicode.Decode
import Derived.Shelf.Strings.RuneCount
import Derived.Shelf.Strings.Explode
import Derived.Shelf.Unicode.DecodeAny
import Derived.Shelf.Unicode.DecodeLast
section
namespace Go.Av.F
open Go Go.Av Go.Proofs Go.Proofs.Tryz
set_option linter.unusedSimpArgs false
set_option linter.unusedVariables false
set_option maxRecDepth 100000
attribute [simp] DE.row PT.row intRow
attribute [simp] tt2 tt3 tt4 tt5 tt6 tt7 tt8 tt9 tt10 tt11 tt12 tt13 tt14 tt15 tt16 tt17 tt18 tt19 tt20 tt21 tt22 tt23 tt24 tt25 tt26 tt27 tt28 tt34 tt35 tt36 tt38 tt39 tt40 tt50 tt51 tt52 tt56 tt57 tt60 tt63 tt68 tt69 tt70 tt71 tt72 tt76 tt77 tt95 tt110 tt111 tt114 tt115 tt116 tt117 tt118 tt119 tt128 tt149 tt152 tt154 tt174 tt175 tt179 tt183 tt186 tt206 tt207 tt215 tt216 tt219 tt220 tt224 tt227 tt228 tt237 tt238 tt244 tt245 tt246 tt251 tt252 tt253 tt254 tt268 tt269 tt270 tt271 tt278 tt279 tt284 tt285 tt286 tt287 tt288 tt290 tt291 tt293 tt294 tt295 tt296
theorem cv_of {f : Nat} {args : List AV} {v : AV} (h : ACall prog f args [] (fun r L' => r = v ∧ L' = [])) (he : enters prog f = true := by kernel_rfl) (hca : clL args = true := by simp) (hcv : clA v = true := by simp) : CV prog f args v := ⟨he, hca, hcv, h⟩
end Go.Av.F
end
section
namespace Go.Av.F
open Go Go.Av Go.Proofs Go.Proofs.Tryz
set_option linter.unusedSimpArgs false
set_option linter.unusedVariables false
set_option maxRecDepth 100000
attribute [simp] shL sh1 beqC beq1
@[simp] theorem eqTyPtr : eqTy prog 69 = true := by
  have g : prog.eqGuardType prog.depth 69 = false := by kernel_rfl
  have s : prog.stoodInHeld 69 = false := by kernel_rfl
  simp -implicitDefEqProofs [eqTy, g, eqOk, eqFs, underlying69, underlying3, s, shL, sh1]
end Go.Av.F
end
section
namespace Go.Av.F
open Go Go.Av Go.Proofs Go.Proofs.Tryz
set_option linter.unusedSimpArgs false
set_option linter.unusedVariables false
set_option maxRecDepth 100000
attribute [simp] clL_strs
@[simp] theorem renL_strs (ρ : Nat → Option Plc) (l : List (List UInt8)) : renL ρ (l.map AV.str) = l.map AV.str := by
  induction l with
  | nil => rfl
  | cons a r ih => simp [ih]
def BkS (bs : List BS) : Prop := bs.length ≤ 1048576 ∧ ∀ b ∈ bs, b.bl.length = 8 ∧ b.name.length ≤ 1048576 ∧ b.frm.length ≤ 1048576
def opS (o : BO) : Prop := o.a.length ≤ 1048576 ∧ o.b.length ≤ 1048576
@[simp] theorem renL_setS (ρ : Nat → Option Plc) (l : List (List UInt8)) (i : Nat) (b : List UInt8) : renL ρ ((l.map AV.str).set i (AV.str b)) = (l.map AV.str).set i (AV.str b) := by
  rw [← List.map_set]
  exact renL_strs ρ _
theorem phs_tup1 {id sz : Nat} {z : AV} : phs id sz (.tup [.agg [.nils], z]) (.tup [.agg [.sl id 0 0], z]) := phs_tup2 phs_agg1 (phs_refl _ _ _)
structure BK where
  sets : List BS
def BK.row (b : BK) : List AV := [.lst 11 (b.sets.map BS.row)]
end Go.Av.F
end
section
namespace Go.Av.F
open Go Go.Av Go.Proofs Go.Proofs.Tryz
set_option linter.unusedSimpArgs false
set_option linter.unusedVariables false
set_option maxRecDepth 100000
def findB (c : UInt8) : List UInt8 → Int → Int
  | [], _ => -1
  | x :: r, i => if x = c then i else findB c r (i + 1)
theorem findC (s : List UInt8) (c : UInt8) (hs : s.length ≤ maxLen) : CV prog 138 [.str s, .int .u8 (c.toNat : Int)] (.int .i64 (findB c s 0)) := by
  obtain ⟨R, hR⟩ : ∃ R, findB c s 0 = R := ⟨_, rfl⟩
  rw [hR]
  have hml : maxLen = 9223372036854775807 := rfl
  refine cvx func138 [] ntmps138 rfl rfl rfl ?_
  simp -implicitDefEqProofs
  refine ev_lp (X := Nat) [0, 1, 5] [] (fun x => [(5, .int .i64 x)]) (fun _ => []) (fun x => s.length - x) (fun x => x ≤ s.length ∧ findB c (s.drop x) x = R) 0 (by simp [hR]) ?_
  rintro i ⟨hi, hd⟩
  cases hr : s.drop i with
  | nil =>
    have := dropn hr
    rw [hr] at hd
    have hie : i = s.length := by omega
    simp [findB] at hd
    simp -implicitDefEqProofs [hie, hd]
  | cons x r =>
    obtain ⟨h1, e0, e1, h3⟩ := dropc hr
    rw [hr, findB] at hd
    have e2 := i64w ((i : Int) + 1) (by omega) (by omega)
    by_cases hxc : x = c
    · subst hxc
      rw [if_pos rfl] at hd
      simp -implicitDefEqProofs [h1, e0, e1, e2]
      exact hd
    · rw [if_neg hxc] at hd
      have e3 : ¬ ((x.toNat : Int) = c.toNat) := fun h => hxc (UInt8.toNat_inj.1 (by omega))
      simp -implicitDefEqProofs [h1, e0, e1, e2, e3]
      exact nx (i + 1) [] (by simp only [h3]; exact ⟨by omega, by simpa using hd⟩) (h4 := by simp [e2])
def sumB : List UInt8 → Nat → Nat
  | [], n => n
  | x :: r, n => sumB r ((n * 257 + x.toNat + 1) % 65521)
theorem ssumC (s : List UInt8) (hs : s.length ≤ maxLen) : CV prog 109 [.str s] (.int .i64 (sumB s (1 + s.length % 997) : Nat)) := by
  obtain ⟨R, hR⟩ : ∃ R, sumB s (1 + s.length % 997) = R := ⟨_, rfl⟩
  rw [hR]
  have hml : maxLen = 9223372036854775807 := rfl
  have t1 : (s.length : Int).tmod 997 = (s.length : Int) % 997 := Int.tmod_eq_emod_of_nonneg (by omega)
  have w1 := i64w (1 + (s.length : Int) % 997) (by omega) (by omega)
  refine cvx func109 [] ntmps109 rfl rfl rfl ?_
  simp -implicitDefEqProofs [t1, w1]
  refine ev_lp (X := Nat × Nat) [0, 3, 4] [] (fun x => [(4, .int .i64 x.1), (3, .int .i64 x.2)]) (fun _ => []) (fun x => s.length - x.1) (fun x => x.1 ≤ s.length ∧ x.2 < 65521 ∧ sumB (s.drop x.1) x.2 = R) (0, 1 + s.length % 997) (by simp [hR]; omega) ?_
  rintro ⟨i, n⟩ ⟨hi, hn, hd⟩
  simp only at hi hn hd
  cases hr : s.drop i with
  | nil =>
    have := dropn hr
    rw [hr] at hd
    have hie : i = s.length := by omega
    simp [sumB] at hd
    simp -implicitDefEqProofs [hie, hd]
  | cons x r =>
    obtain ⟨h1, e0, e1, h3⟩ := dropc hr
    rw [hr, sumB] at hd
    have e2 := i64w ((i : Int) + 1) (by omega) (by omega)
    have hx := x.toNat_lt
    have w2 := i64w ((n : Int) * 257) (by omega) (by omega)
    have w3 := i64w ((n : Int) * 257 + x.toNat) (by omega) (by omega)
    have w4 := i64w ((n : Int) * 257 + x.toNat + 1) (by omega) (by omega)
    have w6 := i64w (x.toNat : Int) (by omega) (by omega)
    have t2 : ((n : Int) * 257 + x.toNat + 1).tmod 65521 = ((n : Int) * 257 + x.toNat + 1) % 65521 := Int.tmod_eq_emod_of_nonneg (by omega)
    have w5 := i64w (((n : Int) * 257 + x.toNat + 1) % 65521) (by omega) (by omega)
    simp -implicitDefEqProofs [h1, e0, e1, e2, w2, w3, w4, w5, w6, t2]
    exact nx (i + 1, (n * 257 + x.toNat + 1) % 65521) [] (by simp only [h3]; exact ⟨by omega, by omega, hd⟩) (by simp only; omega) (h4 := by simp [e2, w2, w3, w4, w5, w6, t2])
theorem isumC (s : List UInt8) (hs : s.length ≤ maxLen) : CV prog 107 [.str s] (.int .i64 (sumB s (1 + s.length % 997) : Nat)) := by
  obtain ⟨R, hR⟩ : ∃ R, sumB s (1 + s.length % 997) = R := ⟨_, rfl⟩
  rw [hR]
  have hml : maxLen = 9223372036854775807 := rfl
  have t1 : (s.length : Int).tmod 997 = (s.length : Int) % 997 := Int.tmod_eq_emod_of_nonneg (by omega)
  have w1 := i64w (1 + (s.length : Int) % 997) (by omega) (by omega)
  refine cvx func107 [] ntmps107 rfl rfl rfl ?_
  simp -implicitDefEqProofs [t1, w1]
  refine ev_lp (X := Nat × Nat) [0, 3, 10, 11] [] (fun x => [(11, .int .i64 x.1), (3, .int .i64 x.2)]) (fun _ => []) (fun x => s.length - x.1) (fun x => x.1 ≤ s.length ∧ x.2 < 65521 ∧ sumB (s.drop x.1) x.2 = R) (0, 1 + s.length % 997) (by simp [hR]; omega) ?_
  rintro ⟨i, n⟩ ⟨hi, hn, hd⟩
  simp only at hi hn hd
  cases hr : s.drop i with
  | nil =>
    have := dropn hr
    rw [hr] at hd
    have hie : i = s.length := by omega
    simp [sumB] at hd
    simp -implicitDefEqProofs [hie, hd]
  | cons x r =>
    obtain ⟨h1, e0, e1, h3⟩ := dropc hr
    rw [hr, sumB] at hd
    have e2 := i64w ((i : Int) + 1) (by omega) (by omega)
    have hx := x.toNat_lt
    have w2 := i64w (257 * (n : Int)) (by omega) (by omega)
    have w3 := i64w (257 * (n : Int) + x.toNat) (by omega) (by omega)
    have w4 := i64w (257 * (n : Int) + x.toNat + 1) (by omega) (by omega)
    have w6 := i64w (x.toNat : Int) (by omega) (by omega)
    have t2 : (257 * (n : Int) + x.toNat + 1).tmod 65521 = (257 * (n : Int) + x.toNat + 1) % 65521 := Int.tmod_eq_emod_of_nonneg (by omega)
    have w5 := i64w ((257 * (n : Int) + x.toNat + 1) % 65521) (by omega) (by omega)
    simp -implicitDefEqProofs [h1, e0, e1, e2, w2, w3, w4, w5, w6, t2]
    rw [Nat.mul_comm] at hd
    exact nx (i + 1, (257 * n + x.toNat + 1) % 65521) [] (by simp only [h3]; exact ⟨by omega, by omega, hd⟩) (by simp only; omega) (h4 := by simp [e2, w2, w3, w4, w5, w6, t2])
def ddig (k : Nat) (out : List UInt8) : List UInt8 := if h : k ≤ 9 then UInt8.ofNat (48 + k) :: out else ddig (k / 10) (UInt8.ofNat (48 + k % 10) :: out)
termination_by k
theorem sdecC (k : Nat) (hk : k < 1000000000) : CV prog 66 [.int .i64 k] (.str (ddig k [])) := by
  obtain ⟨R, hR⟩ : ∃ R, ddig k [] = R := ⟨_, rfl⟩
  rw [hR]
  refine cvx func66 [] ntmps66 rfl rfl rfl ?_
  have h0 : ¬ (k : Int) < -9223372036854775807 := by omega
  have h1 : ¬ (k : Int) < 0 := by omega
  simp -implicitDefEqProofs [h0, h1]
  refine ev_lp (X := Nat × List UInt8) [0, 3] [] (fun x => [(0, .int .i64 x.1), (3, .str x.2)]) (fun _ => []) (fun x => x.1) (fun x => x.2.length + x.1 ≤ k ∧ ddig x.1 x.2 = R) (k, []) (by simp [hR]) ?_
  rintro ⟨j, out⟩ ⟨hj, hm⟩
  simp only at hj hm
  rw [ddig] at hm
  by_cases hz : j ≤ 9
  · rw [dif_pos hz] at hm
    have h2 : ¬ (9 : Int) < j := by omega
    have e1 := i64w (48 + (j : Int)) (by omega) (by omega)
    have e2 : byteOf [.int .u8 (IntKind.u8.wrap (48 + (j : Int)))] = UInt8.ofNat (48 + j) := by
      have : IntKind.u8.wrap (48 + (j : Int)) = ((48 + j : Nat) : Int) := by
        show (48 + (j : Int)) % 256 = _
        omega
      rw [this]
      rfl
    simp -implicitDefEqProofs [h2, e1]
    refine ⟨isU8_wrap _, by omega, ?_⟩
    rw [← hm, e2]
  · rw [dif_neg hz] at hm
    have h2 : (9 : Int) < j := by omega
    have e1 := i64w (48 + (j : Int) % 10) (by omega) (by omega)
    have e3 := i64w ((j : Int) / 10) (by omega) (by omega)
    have e2 : byteOf [.int .u8 (IntKind.u8.wrap (48 + (j : Int) % 10))] = UInt8.ofNat (48 + j % 10) := by
      have : IntKind.u8.wrap (48 + (j : Int) % 10) = ((48 + j % 10 : Nat) : Int) := by
        show (48 + (j : Int) % 10) % 256 = _
        omega
      rw [this]
      rfl
    have t1 : (j : Int).tmod 10 = (j : Int) % 10 := Int.tmod_eq_emod_of_nonneg (by omega)
    have t2 : (j : Int).tdiv 10 = (j : Int) / 10 := Int.tdiv_eq_ediv_of_nonneg (by omega)
    simp -implicitDefEqProofs [h2, t1, t2, e1, e3]
    refine ⟨isU8_wrap _, by omega, ?_⟩
    refine nx (j / 10, UInt8.ofNat (48 + j % 10) :: out) [] ?_ ?_ (h4 := ?_)
    · refine ⟨?_, hm⟩
      simp only [List.length_cons]
      omega
    · simp only
      omega
    · simp [t1, t2, e1, e2, e3]
theorem ddig_len (k : Nat) (out : List UInt8) : (ddig k out).length ≤ out.length + k + 1 := by
  induction k using Nat.strongRecOn generalizing out with
  | _ k ih =>
    rw [ddig]
    split
    · simp only [List.length_cons]
      omega
    · have := ih (k / 10) (by omega) (UInt8.ofNat (48 + k % 10) :: out)
      simp only [List.length_cons] at this
      omega
def sealB (s : List UInt8) : List UInt8 := if 400 < s.length then [] else ddig (sumB s (1 + s.length % 997)) [] ++ 58 :: s
theorem sumB_lt : ∀ (s : List UInt8) (n : Nat), n < 65521 → sumB s n < 65521
  | [], n, h => h
  | x :: r, n, h => sumB_lt r _ (Nat.mod_lt _ (by omega))
theorem ssealC (s : List UInt8) (hs : s.length ≤ maxLen) : CV prog 68 [.str s] (.str (sealB s)) := by
  have hlt := sumB_lt s (1 + s.length % 997) (by omega)
  refine cvx func68 [] ntmps68 rfl rfl rfl ?_
  unfold sealB
  by_cases h : 400 < s.length
  · have h' : (400 : Int) < s.length := by omega
    simp -implicitDefEqProofs [h, h']
  · have h' : ¬ (400 : Int) < s.length := by omega
    rw [if_neg h]
    simp -implicitDefEqProofs [h']
    refine (ssumC s hs).call ?_
    simp -implicitDefEqProofs
    refine (sdecC _ (by omega)).call ?_
    simp -implicitDefEqProofs
    have hdl := ddig_len (sumB s (1 + s.length % 997)) []
    simp only [List.length_nil] at hdl
    omega
def openB (s : List UInt8) : List UInt8 × Bool :=
  if findB 58 s 0 < 0 then ([], false) else if sealB (s.drop ((findB 58 s 0).toNat + 1)) = s then (s.drop ((findB 58 s 0).toNat + 1), true) else ([], false)
theorem findB_lt : ∀ (c : UInt8) (s : List UInt8) (i : Int), 0 ≤ i → findB c s i < i + s.length
  | c, [], i, h => by simp [findB]; omega
  | c, x :: r, i, h => by
    unfold findB
    split
    · simp; omega
    · have := findB_lt c r (i + 1) (by omega)
      simp only [List.length_cons]
      omega
theorem findB_ge : ∀ (c : UInt8) (s : List UInt8) (i : Int), 0 ≤ i → findB c s i = -1 ∨ i ≤ findB c s i
  | c, [], i, h => .inl rfl
  | c, x :: r, i, h => by
    unfold findB
    split
    · exact .inr (Int.le_refl _)
    · rcases findB_ge c r (i + 1) (by omega) with h | h
      · exact .inl h
      · exact .inr (by omega)
theorem sopenC (s : List UInt8) (hs : s.length ≤ 1048576) : CV prog 84 [.str s] (.tup [.str (openB s).1, .bool (openB s).2]) := by
  obtain ⟨R, hR⟩ : ∃ R, openB s = R := ⟨_, rfl⟩
  rw [hR]
  have hml : maxLen = 9223372036854775807 := rfl
  have hlt := findB_lt 58 s 0 (by omega)
  have hge := findB_ge 58 s 0 (by omega)
  have fc := findC s 58 (by omega)
  have sc := ssealC (s.drop ((findB 58 s 0).toNat + 1)) (by simp; omega)
  refine cvx func84 [] ntmps84 rfl rfl rfl ?_
  simp -implicitDefEqProofs
  refine fc.call ?_
  unfold openB at hR
  generalize findB 58 s 0 = k at *
  by_cases h : k < 0
  · rw [if_pos h] at hR
    simp -implicitDefEqProofs [h, ← hR]
  · rw [if_neg h] at hR
    have e1 := i64w (k + 1) (by omega) (by omega)
    have d1 : (k + 1).toNat = k.toNat + 1 := by omega
    have d2 : List.take (s.length - (k.toNat + 1)) (List.drop (k.toNat + 1) s) = List.drop (k.toNat + 1) s := List.take_of_length_le (by simp)
    simp -implicitDefEqProofs [h, e1, d1, d2]
    refine ⟨⟨by omega, by omega⟩, ?_⟩
    refine sc.call ?_
    by_cases hs2 : sealB (s.drop (k.toNat + 1)) = s
    · rw [if_pos hs2] at hR
      simp -implicitDefEqProofs [hs2, h, e1, d1, d2, ← hR]
      exact ⟨by omega, by omega⟩
    · rw [if_neg hs2] at hR
      simp -implicitDefEqProofs [hs2, ← hR]
def hexL : List UInt8 := [48, 49, 50, 51, 52, 53, 54, 55, 56, 57, 97, 98, 99, 100, 101, 102]
def unhB : List UInt8 → List UInt8 → List UInt8 × Bool
  | a :: b :: r, out => if findB a hexL 0 < 0 ∨ findB b hexL 0 < 0 then ([], false) else unhB r (out ++ [UInt8.ofNat (findB a hexL 0 * 16 + findB b hexL 0).toNat])
  | [], out => (out, true)
  | [_], _ => ([], false)
theorem hex16 (c : UInt8) : findB c hexL 0 < 16 ∧ -1 ≤ findB c hexL 0 := by
  have := findB_lt c hexL 0 (by omega)
  have h2 := findB_ge c hexL 0 (by omega)
  simp [hexL] at this
  simp only [hexL] at h2 ⊢
  omega
theorem byteOf_u8 : byteOf ∘ u8row = id := by
  funext c
  show UInt8.ofNat ((c.toNat : Int).toNat) = c
  simp
theorem renL_u8c (ρ : Nat → Option Plc) : renL ρ ∘ u8row = u8row := by
  funext c
  simp [u8row]
theorem sunhC (s : List UInt8) (hs : s.length ≤ 1048576) : CV prog 140 [.str s] (.tup [.str (unhB s []).1, .bool (unhB s []).2]) := by
  obtain ⟨R, hR⟩ : ∃ R, unhB s [] = R := ⟨_, rfl⟩
  rw [hR]
  have hml : maxLen = 9223372036854775807 := rfl
  have t1 : (s.length : Int).tmod 2 = (s.length : Int) % 2 := Int.tmod_eq_emod_of_nonneg (by omega)
  refine cvx func140 [] ntmps140 rfl rfl rfl ?_
  by_cases hodd : s.length % 2 = 0
  · have h1 : ¬ (0 : Int) < (s.length : Int) % 2 := by omega
    simp -implicitDefEqProofs [t1, h1]
    refine ev_lo (X := Nat × List UInt8) [0, 4, 5] [(12, 900)] (fun x => [(5, .int .i64 x.1), (4, .sl 900 0 x.2.length)]) (fun x => [(900, ⟨1, x.2.map u8row⟩)]) (fun x => s.length - x.1) (fun x => x.1 ≤ s.length ∧ x.1 % 2 = 0 ∧ x.2.length ≤ x.1 ∧ unhB (s.drop x.1) x.2 = R) (0, []) (by simp [hR]) ?_ (he := by simp [obOf])
    rintro ⟨i, out⟩ ⟨hi, hev, hol, hd⟩
    simp only at hi hev hol hd
    by_cases h2 : i < s.length
    · obtain ⟨a, f1⟩ : ∃ a, s[i]? = some a := ⟨_, List.getElem?_eq_getElem (by omega)⟩
      obtain ⟨b, f2⟩ : ∃ b, s[i + 1]? = some b := ⟨_, List.getElem?_eq_getElem (by omega)⟩
      rw [dropAt f1, dropAt f2, unhB] at hd
      have h3 : i + 1 < s.length := by omega
      have g1 : s[i] = a := (List.getElem?_eq_some_iff.1 f1).2
      have g2 : s[i + 1] = b := (List.getElem?_eq_some_iff.1 f2).2
      have c1 := findC hexL a (by simp [hexL, hml])
      have c2 := findC hexL b (by simp [hexL, hml])
      have b1 := hex16 a
      have b2 := hex16 b
      obtain ⟨p, hp⟩ : ∃ p, findB a hexL 0 = p := ⟨_, rfl⟩
      obtain ⟨q, hq⟩ : ∃ q, findB b hexL 0 = q := ⟨_, rfl⟩
      rw [hp] at c1 b1 hd
      rw [hq] at c2 b2 hd
      simp only [hexL] at c1 c2
      have e1 := i64w ((i : Int) + 1) (by omega) (by omega)
      have e2 := i64w ((i : Int) + 2) (by omega) (by omega)
      have e3 : ((i : Int) + 1).toNat = i + 1 := by omega
      simp -implicitDefEqProofs [h2, f1, g1]
      refine c1.call ?_
      simp -implicitDefEqProofs [h2, h3, f2, g2, e1, e3]
      refine ⟨⟨by omega, by omega⟩, ?_⟩
      refine c2.call ?_
      by_cases hpn : p < 0
      · rw [if_pos (.inl hpn)] at hd
        simp -implicitDefEqProofs [hpn, ← hd]
      · by_cases hqn : q < 0
        · rw [if_pos (.inr hqn)] at hd
          simp -implicitDefEqProofs [hpn, hqn, ← hd]
        · rw [if_neg (by omega)] at hd
          have w1 := i64w (p * 16) (by omega) (by omega)
          have w2 := i64w (p * 16 + q) (by omega) (by omega)
          have w3 : IntKind.u8.wrap (p * 16 + q) = p * 16 + q := by
            show (p * 16 + q) % 256 = _
            omega
          simp -implicitDefEqProofs [hpn, hqn, w1, w2, w3]
          refine ⟨by omega, ?_⟩
          have hu : u8row (UInt8.ofNat (p * 16 + q).toNat) = [.int .u8 (p * 16 + q)] := by
            show [AV.int .u8 (((UInt8.ofNat (p * 16 + q).toNat).toNat : Nat) : Int)] = _
            simp only [UInt8.toNat_ofNat']
            have : (p * 16 + q).toNat % 2 ^ 8 = (p * 16 + q).toNat := Nat.mod_eq_of_lt (by omega)
            rw [this]
            have : (((p * 16 + q).toNat : Nat) : Int) = p * 16 + q := by omega
            rw [this]
          refine nx (i + 2, out ++ [UInt8.ofNat (p * 16 + q).toNat]) [(41, 900)] ⟨by simp only; omega, by simp only; omega, by simp; omega, hd⟩ (by simp only; omega) (h4 := ?_)
          simp [obOf, e2, hu, List.take_of_length_le, renL_u8c]
    · have : i = s.length := by omega
      subst this
      rw [List.drop_eq_nil_of_le (by omega), unhB] at hd
      simp -implicitDefEqProofs [byteOf_u8, List.take_of_length_le]
      exact ⟨fun _ _ => rfl, by rw [← hd], by rw [← hd]⟩
  · have h1 : (0 : Int) < (s.length : Int) % 2 := by omega
    have ho : ∀ (n : Nat) (l o : List UInt8), l.length = 2 * n + 1 → unhB l o = ([], false) := by
      intro n
      induction n with
      | zero =>
        intro l o hl
        match l, hl with
        | [x], _ => rfl
      | succ n ih =>
        intro l o hl
        match l, hl with
        | a :: b :: r, hl =>
          unfold unhB
          split
          · rfl
          · exact ih r _ (by simp at hl; omega)
    have := ho (s.length / 2) s [] (by omega)
    rw [this] at hR
    simp -implicitDefEqProofs [t1, h1, ← hR]
def cutR (c : UInt8) : List UInt8 → List UInt8 → List (List UInt8)
  | [], cur => [cur]
  | x :: r, cur => if x = c then cur :: cutR c r [] else cutR c r (cur ++ [x])
def strR (t : List UInt8) : List AV := [.str t]
theorem renL_strR (ρ : Nat → Option Plc) : renL ρ ∘ strR = strR := by
  funext t
  simp [strR]
theorem scutO (s : List UInt8) (c : UInt8) (hs : s.length ≤ 1048576) : ACall prog 85 [.str s, .int .u8 (c.toNat : Int)] [] (fun r L' => r = .sl 900 0 (cutR c s []).length ∧ L' = [(900, ⟨1, (cutR c s []).map strR⟩)]) := by
  obtain ⟨R, hR⟩ : ∃ R, cutR c s [] = R := ⟨_, rfl⟩
  rw [hR]
  refine acx func85 [] ntmps85 rfl rfl rfl ?_
  simp -implicitDefEqProofs
  refine ev_lo (X := Nat × Nat × List (List UInt8)) [0, 1, 5, 6, 7] [(8, 900)] (fun x => [(7, .int .i64 x.1), (6, .int .i64 x.2.1), (5, .sl 900 0 x.2.2.length)]) (fun x => [(900, ⟨1, x.2.2.map strR⟩)]) (fun x => s.length + 1 - x.1)
    (fun x => x.2.2.length ≤ x.1 ∧ ((x.1 ≤ s.length ∧ x.2.1 ≤ x.1 ∧ x.2.2 ++ cutR c (s.drop x.1) (List.take (x.1 - x.2.1) (List.drop x.2.1 s)) = R) ∨ (x.1 = s.length + 1 ∧ x.2.2 = R))) (0, 0, []) ⟨by simp, .inl ⟨by simp, by simp, by simpa using hR⟩⟩ ?_ (he := by simp [obOf])
  rintro ⟨i, fr, ps⟩ ⟨hpl, hg⟩
  simp only at hpl hg
  rcases hg with ⟨hi, hf, hd⟩ | ⟨hi, hd⟩
  · have h0 : (i : Int) ≤ s.length := by omega
    have e1 := i64w ((i : Int) + 1) (by omega) (by omega)
    by_cases h1 : i = s.length
    · subst h1
      rw [List.drop_eq_nil_of_le (by omega), cutR] at hd
      simp -implicitDefEqProofs
      refine ⟨by omega, by omega, ?_⟩
      refine nx (s.length + 1, s.length + 1, ps ++ [List.take (s.length - fr) (List.drop fr s)]) [(32, 900)] ⟨by simp only [List.length_append, List.length_singleton]; omega, .inr ⟨rfl, hd⟩⟩ (by simp only; omega) (h4 := ?_)
      simp [obOf, e1, renL_strR, strR, List.take_of_length_le]
    · have h1' : ¬ (i : Int) = s.length := by omega
      have hlt : i < s.length := by omega
      obtain ⟨x, f1⟩ : ∃ x, s[i]? = some x := ⟨_, List.getElem?_eq_getElem (by omega)⟩
      have f0 : s[i] = x := (List.getElem?_eq_some_iff.1 f1).2
      rw [dropAt f1, cutR] at hd
      by_cases hxc : x = c
      · subst hxc
        rw [if_pos rfl] at hd
        simp -implicitDefEqProofs [h0, h1', hlt, f0, f1]
        refine ⟨⟨by omega, by omega⟩, by omega, ?_⟩
        refine nx (i + 1, i + 1, ps ++ [List.take (i - fr) (List.drop fr s)]) [(32, 900)] ⟨by simp only [List.length_append, List.length_singleton]; omega, .inl ⟨by simp only; omega, by simp, by simpa using hd⟩⟩ (by simp only; omega) (h4 := ?_)
        simp [obOf, e1, renL_strR, strR, List.take_of_length_le]
      · rw [if_neg hxc] at hd
        have e3 : ¬ ((x.toNat : Int) = c.toNat) := fun h => hxc (UInt8.toNat_inj.1 (by omega))
        simp -implicitDefEqProofs [h0, h1', hlt, f0, f1, e3]
        have e4 : List.take (i + 1 - fr) (List.drop fr s) = List.take (i - fr) (List.drop fr s) ++ [x] := by
          rw [show i + 1 - fr = i - fr + 1 by omega]
          exact takeS (by rw [List.getElem?_drop, show fr + (i - fr) = i by omega]; exact f1)
        refine nx (i + 1, fr, ps) [(900, 900)] ⟨by simp only; omega, .inl ⟨by simp only; omega, by simp only; omega, by simp only; rw [e4]; exact hd⟩⟩ (by simp only; omega) (h4 := ?_)
        simp [obOf, e1, renL_strR]
  · subst hi
    have h0 : ¬ ((s.length : Int) + 1) ≤ s.length := by omega
    simp -implicitDefEqProofs [h0]
    exact ⟨by rw [hd], by rw [hd]⟩
theorem scutC (s : List UInt8) (c : UInt8) (hs : s.length ≤ 1048576) : CV prog 85 [.str s, .int .u8 (c.toNat : Int)] (.lst 1 ((cutR c s []).map strR)) := by
  refine CV.of_frz (scutO s c hs) (fun r L' hR => ?_)
  obtain ⟨rfl, rfl⟩ := hR
  refine ⟨by simp, by simp, ?_, ?_⟩
  · simp [clR, strR, clL, clA]
  · simp [frzAll, List.take_of_length_le]
    exact impA_refl _
def numB (n : Nat) : List UInt8 → Option Nat
  | [] => some n
  | x :: r => if x.toNat < 48 ∨ 57 < x.toNat then none else numB (n * 10 + (x.toNat - 48)) r
def numT (neg : Bool) (t : List UInt8) : Int × Bool :=
  if t.length = 0 ∨ 17 < t.length ∨ (t.head? = some 48 ∧ (1 < t.length ∨ neg = true)) then (0, false) else
  match numB 0 t with
  | none => (0, false)
  | some n => (if neg = true then -(n : Int) else n, true)
def snumB (s : List UInt8) : Int × Bool := if s.head? = some 45 then numT true s.tail else numT false s
theorem snumC (s : List UInt8) (hs : s.length ≤ 1048576) : CV prog 139 [.str s] (.tup [.int .i64 (snumB s).1, .bool (snumB s).2]) := by
  obtain ⟨R, hR⟩ : ∃ R, snumB s = R := ⟨_, rfl⟩
  rw [hR]
  refine cvx func139 [] ntmps139 rfl rfl rfl ?_
  unfold snumB at hR
  cases s with
  | nil =>
    simp [numT] at hR
    simp -implicitDefEqProofs [← hR]
  | cons x r =>
    have hrl : List.take r.length r = r := List.take_of_length_le (Nat.le_refl _)
    by_cases hx : x = 45
    · subst hx
      simp only [List.head?_cons, List.tail_cons, if_true] at hR
      unfold numT at hR
      by_cases hc : r.length = 0 ∨ 17 < r.length ∨ r.head? = some 48 ∧ (1 < r.length ∨ true = true)
      · rw [if_pos hc] at hR
        simp -implicitDefEqProofs [hrl, ← hR]
        cases r with
        | nil => simp
        | cons y t =>
          intro _ g2
          refine ⟨by simp, fun g3 => ?_⟩
          exfalso
          simp at hc g2 g3
          rcases hc with h | h
          · omega
          · subst h
            exact g3 rfl
      · rw [if_neg hc] at hR
        obtain ⟨N, hN⟩ : ∃ N, numB 0 r = N := ⟨_, rfl⟩
        rw [hN] at hR
        cases r with
        | nil => simp at hc
        | cons y t =>
          simp only [List.head?_cons, List.length_cons, Option.some.injEq, or_true, and_true, not_or] at hc
          have hy' : ¬ ((y.toNat : Int) = 48) := fun h => hc.2.2 (UInt8.toNat_inj.1 (by simpa using by omega))
          have h17 : (t.length : Int) + 1 ≤ 17 := by omega
          have h17' : ¬ 17 < (t.length : Int) + 1 := by omega
          simp -implicitDefEqProofs [hrl, hy', h17, h17']
          refine ⟨fun _ => ⟨by omega, fun _ => ?_, fun h => by omega⟩, fun h => by omega⟩
          have hTl : (y :: t).length ≤ 17 := by simp; omega
          refine ev_lp (X := Nat × Nat) [0, 4, 5, 6] [] (fun w => [(6, .int .i64 w.1), (5, .int .i64 w.2)]) (fun _ => []) (fun w => (y :: t).length - w.1) (fun w => w.1 ≤ (y :: t).length ∧ w.2 < 10 ^ w.1 ∧ numB w.2 ((y :: t).drop w.1) = N) (0, 0) ⟨by omega, by simp, hN⟩ ?_
          rintro ⟨i, n⟩ ⟨hi, hn, hd⟩
          simp only at hi hn hd
          have hp : 10 ^ i ≤ 10 ^ 17 := Nat.pow_le_pow_right (by omega) (by omega)
          cases hr : (y :: t).drop i with
          | nil =>
            have := dropn hr
            rw [hr, numB] at hd
            have hie : i = (y :: t).length := by omega
            rw [← hd] at hR
            have w0 := i64w (-(n : Int)) (by omega) (by omega)
            simp -implicitDefEqProofs [hie, w0, ← hR]
          | cons z q =>
            obtain ⟨g1, g0, g2, g3⟩ := dropc hr
            rw [hr, numB] at hd
            have e2 := i64w ((i : Int) + 1) (by omega) (by omega)
            have hz := z.toNat_lt
            have g1' : (i : Int) < (t.length : Int) + 1 := by simp at g1; omega
            by_cases hbad : z.toNat < 48 ∨ 57 < z.toNat
            · rw [if_pos hbad] at hd
              rw [← hd] at hR
              simp -implicitDefEqProofs [g1', g1, g0, g2, ← hR]
              intros
              omega
            · rw [if_neg hbad] at hd
              have w1 := i64w ((n : Int) * 10) (by omega) (by omega)
              have w2 : IntKind.u8.wrap ((z.toNat : Int) - 48) = (z.toNat : Int) - 48 := by
                show ((z.toNat : Int) - 48) % 256 = _
                omega
              have w3 := i64w ((z.toNat : Int) - 48) (by omega) (by omega)
              have w4 := i64w ((n : Int) * 10 + ((z.toNat : Int) - 48)) (by omega) (by omega)
              have b1 : ¬ ((z.toNat : Int) < 48) := by omega
              have b2 : ¬ (57 < (z.toNat : Int)) := by omega
              simp -implicitDefEqProofs [g1', g1, g0, g2, b1, b2, e2, w1, w2, w3, w4]
              have c1 : ((z.toNat - 48 : Nat) : Int) = (z.toNat : Int) - 48 := by omega
              have hps : 10 ^ (i + 1) = 10 ^ i * 10 := Nat.pow_succ ..
              refine nx (i + 1, n * 10 + (z.toNat - 48)) [] ⟨by simp only; omega, by simp only; omega, by simp only [g3]; exact hd⟩ (by simp only; omega) (h4 := ?_)
              simp [e2, w1, w2, w3, w4, c1]
    · have hx' : ¬ ((x.toNat : Int) = 45) := fun h => hx (UInt8.toNat_inj.1 (by simpa using by omega))
      simp only [List.head?_cons, Option.some.injEq, hx, if_false] at hR
      unfold numT at hR
      by_cases hc : (x :: r).length = 0 ∨ 17 < (x :: r).length ∨ (x :: r).head? = some 48 ∧ (1 < (x :: r).length ∨ false = true)
      · rw [if_pos hc] at hR
        simp -implicitDefEqProofs [hrl, hx', ← hR]
        intro _ g2
        simp only [List.length_cons, List.head?_cons, Option.some.injEq, Bool.false_eq_true, or_false] at hc
        refine ⟨fun g3 g4 => ?_, fun g3 => ?_⟩
        · exfalso
          omega
        · exfalso
          rcases hc with h | h | ⟨h, _⟩
          · omega
          · omega
          · subst h
            exact g3 rfl
      · rw [if_neg hc] at hR
        obtain ⟨N, hN⟩ : ∃ N, numB 0 (x :: r) = N := ⟨_, rfl⟩
        rw [hN] at hR
        simp only [List.head?_cons, List.length_cons, Option.some.injEq, Bool.false_eq_true, or_false, not_or, not_and] at hc
        have h17 : (r.length : Int) + 1 ≤ 17 := by omega
        have h17' : ¬ 17 < (r.length : Int) + 1 := by omega
        have hTl : (x :: r).length ≤ 17 := by simp; omega
        simp -implicitDefEqProofs [hrl, hx', h17, h17']
        refine ⟨fun _ => ⟨fun g => ⟨fun _ => ?_, fun h => absurd (hc.2.2 (UInt8.toNat_inj.1 (by simpa using by omega))) (by omega)⟩, fun g => ?_⟩, fun h => by omega⟩
        all_goals
          refine ev_lp (X := Nat × Nat) [0, 4, 5, 6] [] (fun w => [(6, .int .i64 w.1), (5, .int .i64 w.2)]) (fun _ => []) (fun w => (x :: r).length - w.1) (fun w => w.1 ≤ (x :: r).length ∧ w.2 < 10 ^ w.1 ∧ numB w.2 ((x :: r).drop w.1) = N) (0, 0) ⟨by omega, by simp, hN⟩ ?_
          rintro ⟨i, n⟩ ⟨hi, hn, hd⟩
          simp only at hi hn hd
          have hp : 10 ^ i ≤ 10 ^ 17 := Nat.pow_le_pow_right (by omega) (by omega)
          cases hr : (x :: r).drop i with
          | nil =>
            have := dropn hr
            rw [hr, numB] at hd
            have hie : i = (x :: r).length := by omega
            rw [← hd] at hR
            have w0 := i64w (-(n : Int)) (by omega) (by omega)
            simp -implicitDefEqProofs [hie, w0, hx', ← hR]
          | cons z q =>
            obtain ⟨g1, g0, g2, g3⟩ := dropc hr
            rw [hr, numB] at hd
            have e2 := i64w ((i : Int) + 1) (by omega) (by omega)
            have hz := z.toNat_lt
            have g1' : (i : Int) < (r.length : Int) + 1 := by simp at g1; omega
            by_cases hbad : z.toNat < 48 ∨ 57 < z.toNat
            · rw [if_pos hbad] at hd
              rw [← hd] at hR
              simp -implicitDefEqProofs [g1', g1, g0, g2, ← hR]
              intros
              omega
            · rw [if_neg hbad] at hd
              have w1 := i64w ((n : Int) * 10) (by omega) (by omega)
              have w2 : IntKind.u8.wrap ((z.toNat : Int) - 48) = (z.toNat : Int) - 48 := by
                show ((z.toNat : Int) - 48) % 256 = _
                omega
              have w3 := i64w ((z.toNat : Int) - 48) (by omega) (by omega)
              have w4 := i64w ((n : Int) * 10 + ((z.toNat : Int) - 48)) (by omega) (by omega)
              have b1 : ¬ ((z.toNat : Int) < 48) := by omega
              have b2 : ¬ (57 < (z.toNat : Int)) := by omega
              simp -implicitDefEqProofs [g1', g1, g0, g2, b1, b2, e2, w1, w2, w3, w4]
              have c1 : ((z.toNat - 48 : Nat) : Int) = (z.toNat : Int) - 48 := by omega
              have hps : 10 ^ (i + 1) = 10 ^ i * 10 := Nat.pow_succ ..
              refine nx (i + 1, n * 10 + (z.toNat - 48)) [] ⟨by simp only; omega, by simp only; omega, by simp only [g3]; exact hd⟩ (by simp only; omega) (h4 := ?_)
              simp [e2, w1, w2, w3, w4, c1]
end Go.Av.F
end
section
namespace Go.Av.F
open Go Go.Av Go.Proofs Go.Proofs.Tryz
set_option linter.unusedSimpArgs false
set_option linter.unusedVariables false
set_option maxRecDepth 100000
def wordB (w name : List UInt8) : BO × Bool :=
  if findB 61 w 0 < 1 then (⟨0, [], [], 0, []⟩, false) else
  (⟨3, name, [], (snumB (w.take (findB 61 w 0).toNat)).1, (unhB (w.drop ((findB 61 w 0).toNat + 1)) []).1⟩,
    (snumB (w.take (findB 61 w 0).toNat)).2 && (unhB (w.drop ((findB 61 w 0).toNat + 1)) []).2 && decide (0 ≤ (snumB (w.take (findB 61 w 0).toNat)).1) && decide ((snumB (w.take (findB 61 w 0).toNat)).1 < 8) && decide ((unhB (w.drop ((findB 61 w 0).toNat + 1)) []).1.length ≤ 24))
theorem wordC (w name : List UInt8) (hw : w.length ≤ 1048576) : CV prog 86 [.str w, .str name] (.tup [.agg (BO.row (wordB w name).1), .bool (wordB w name).2]) := by
  obtain ⟨R, hR⟩ : ∃ R, wordB w name = R := ⟨_, rfl⟩
  rw [hR]
  have hml : maxLen = 9223372036854775807 := rfl
  have hlt := findB_lt 61 w 0 (by omega)
  have hge := findB_ge 61 w 0 (by omega)
  have fc := findC w 61 (by omega)
  have nc := snumC (w.take (findB 61 w 0).toNat) (by simp; omega)
  have uc := sunhC (w.drop ((findB 61 w 0).toNat + 1)) (by simp; omega)
  unfold wordB at hR
  refine cvx func86 [] ntmps86 rfl rfl rfl ?_ (hcv := by simp [BO.row])
  simp -implicitDefEqProofs
  refine fc.call ?_
  generalize findB 61 w 0 = k at *
  by_cases h : k < 1
  · rw [if_pos h] at hR
    simp -implicitDefEqProofs [h, ← hR, BO.row]
  · rw [if_neg h] at hR
    have e1 := i64w (k + 1) (by omega) (by omega)
    have d1 : (k + 1).toNat = k.toNat + 1 := by omega
    have d2 : List.take (w.length - (k.toNat + 1)) (List.drop (k.toNat + 1) w) = List.drop (k.toNat + 1) w := List.take_of_length_le (by simp)
    generalize snumB (w.take k.toNat) = nn at *
    generalize unhB (w.drop (k.toNat + 1)) [] = uu at *
    obtain ⟨n1, n2⟩ := nn
    obtain ⟨u1, u2⟩ := uu
    simp only at nc uc hR
    simp -implicitDefEqProofs [h, e1, d1, d2]
    refine ⟨⟨by omega, by omega⟩, ?_⟩
    refine nc.call ?_
    simp -implicitDefEqProofs [h, e1, d1, d2]
    refine ⟨⟨by omega, by omega⟩, ?_⟩
    refine uc.call ?_
    simp -implicitDefEqProofs [← hR, BO.row]
    have ed : decide ((u1.length : Int) ≤ 24) = decide (u1.length ≤ 24) := decide_eq_decide.2 (by omega)
    rw [ed]
    clear hR nc uc fc
    cases n2 <;> cases u2 <;> grind
theorem cutR_pos (c : UInt8) : ∀ (s cur : List UInt8), 0 < (cutR c s cur).length
  | [], cur => by simp [cutR]
  | x :: r, cur => by
    unfold cutR
    split
    · simp
    · exact cutR_pos c r _
theorem cutR_len (c : UInt8) : ∀ (s cur : List UInt8), ∀ t ∈ cutR c s cur, t.length ≤ cur.length + s.length
  | [], cur, t, h => by
    simp only [cutR, List.mem_singleton] at h
    subst h
    simp
  | x :: r, cur, t, h => by
    unfold cutR at h
    split at h
    · rcases List.mem_cons.1 h with rfl | h
      · simp
      · have := cutR_len c r [] t h
        simp at this ⊢
        omega
    · have := cutR_len c r _ t h
      simp at this ⊢
      omega
theorem cutR_num (c : UInt8) : ∀ (s cur : List UInt8), (cutR c s cur).length ≤ s.length + 1
  | [], cur => by simp [cutR]
  | x :: r, cur => by
    unfold cutR
    split
    · have := cutR_num c r []
      simp
      omega
    · have := cutR_num c r (cur ++ [x])
      simp
      omega
theorem openB_len (s : List UInt8) : (openB s).1.length ≤ s.length := by
  unfold openB
  split
  · simp
  · split <;> simp
def lateB (out : List BO) (i : Int) : Bool := match out.getLast? with
  | some o => decide (i ≤ o.i)
  | none => false
def readL (name : List UInt8) : List (List UInt8) → List BO → Option (List BO)
  | [], out => some out
  | w :: r, out => if (wordB w name).2 = false ∨ lateB out (wordB w name).1.i = true then none else readL name r (out ++ [(wordB w name).1])
def sreadB (text name : List UInt8) : List BO × Bool :=
  if (openB text).2 = false ∨ (cutR 32 (openB text).1 []).head? ≠ some [115, 101, 110, 100] then ([], false) else
  match readL name (cutR 32 (openB text).1 []).tail [] with
  | none => ([], false)
  | some l => (l, true)
theorem sreadO (text name : List UInt8) (ht : text.length ≤ 1048576) : ACall prog 37 [.str text, .str name] [] (fun r L' => ∃ id, r = .tup [.sl id 0 (sreadB text name).1.length, .bool (sreadB text name).2] ∧ L' = [(id, opsOb (sreadB text name).1)]) := by
  obtain ⟨R, hR⟩ : ∃ R, sreadB text name = R := ⟨_, rfl⟩
  rw [hR]
  unfold sreadB at hR
  have ho := openB_len text
  have oc := sopenC text ht
  refine acx func37 [(10, [⟨0, [], [], [], []⟩, ⟨1, [], [], [], []⟩, ⟨2, [], [], [], []⟩, ⟨3, [], [], [], []⟩, ⟨4, [], [], [], []⟩, ⟨5, [], [], [], []⟩, ⟨6, [], [], [], []⟩, ⟨7, [], [], [], []⟩, ⟨8, [11], [], [], []⟩, ⟨9, [], [11], [], []⟩, ⟨10, [], [11], [], []⟩, ⟨11, [], [11], [], []⟩, ⟨12, [], [11], [], []⟩, ⟨13, [900], [11], [], []⟩, ⟨14, [], [11], [], []⟩, ⟨15, [900], [11], [], []⟩, ⟨16, [], [], [], []⟩, ⟨17, [], [], [], []⟩, ⟨18, [], [], [], []⟩])] ntmps37 rfl rfl rfl ?_
  simp -implicitDefEqProofs
  refine oc.call ?_
  generalize openB text = op at *
  obtain ⟨s, ok⟩ := op
  simp only at ho hR
  have cc := scutC s 32 (by omega)
  have hcp := cutR_pos 32 s []
  have hcl := cutR_len 32 s []
  have hcn := cutR_num 32 s []
  generalize cutR 32 s [] = ws at *
  simp only at oc
  cases ws with
  | nil => simp at hcp
  | cons f ws =>
    cases ok with
    | false =>
      rw [if_pos (.inl rfl)] at hR
      simp -implicitDefEqProofs
      refine cc.call ?_
      simp -implicitDefEqProofs [← hR]
      rfl
    | true =>
      simp -implicitDefEqProofs
      refine cc.call ?_
      by_cases hf : f = [115, 101, 110, 100]
      · rw [if_neg (by simp [hf])] at hR
        simp only [List.tail_cons] at hR
        simp -implicitDefEqProofs [strR, hf]
        refine ev_lo (X := Nat × List BO) [1, 8, 9, 10] [(20, 900)] (fun x => [(10, .int .i64 x.1), (9, .sl 900 0 x.2.length)]) (fun x => [(900, opsOb x.2)]) (fun x => ws.length + 1 - x.1)
          (fun x => 1 ≤ x.1 ∧ x.1 ≤ ws.length + 1 ∧ x.2.length < x.1 ∧ (match readL name (ws.drop (x.1 - 1)) x.2 with | none => ([], false) | some l => (l, true)) = R) (1, []) ⟨by omega, by omega, by simp, by simpa using hR⟩ ?_ (he := by simp [obOf, opsOb])
        rintro ⟨i, out⟩ ⟨h1, hi, hol, hd⟩
        simp only at h1 hi hol hd
        cases hr : ws.drop (i - 1) with
        | nil =>
          have := dropn hr
          rw [hr, readL] at hd
          have hie : i = ws.length + 1 := by omega
          have h2 : ¬ ((i : Int) < (ws.length : Int) + 1) := by omega
          simp -implicitDefEqProofs [h2, ← hd]
        | cons w q =>
          obtain ⟨g1, g0, g2, g3⟩ := dropc hr
          rw [hr, readL] at hd
          have h2 : (i : Int) < (ws.length : Int) + 1 := by omega
          obtain ⟨j, rfl⟩ : ∃ j, i = j + 1 := ⟨i - 1, by omega⟩
          simp only [Nat.add_sub_cancel] at g1 g0 g2 g3
          simp only [List.length_cons] at hcn
          have hwm := hcl w (List.mem_cons_of_mem _ (List.mem_of_getElem? g2))
          simp only [List.length_nil, Nat.zero_add] at hwm
          have h2' : (j : Int) + 1 < (ws.length : Int) + 1 := by omega
          have h3 : 0 ≤ (j : Int) + 1 := by omega
          have e1 := i64w ((j : Int) + 1 + 1) (by omega) (by omega)
          have wc := wordC w name (by omega)
          generalize wordB w name = ww at *
          obtain ⟨o, fine⟩ := ww
          simp only at wc hd
          simp -implicitDefEqProofs [h2, h2', h3, g1, g0, g2, strR]
          refine wc.call ?_
          cases fine with
          | false =>
            simp only [true_or, if_true] at hd
            simp -implicitDefEqProofs [BO.row, ← hd]
            rfl
          | true =>
            simp only [Bool.true_eq_false, false_or] at hd
            rcases List.eq_nil_or_concat out with hout | ⟨out', lo, hout⟩
            · subst hout
              have hlb : lateB [] o.i = false := rfl
              rw [hlb] at hd
              simp -implicitDefEqProofs [BO.row, ops_sz, ops_els]
              refine nx (j + 2, [o]) [(68, 900)] ⟨by simp only; omega, by simp only; omega, by simp only [List.length_singleton]; omega, ?_⟩ (by simp only; omega) (h4 := ?_)
              · simp only [show j + 2 - 1 = j + 1 by omega, g3]
                simpa using hd
              · simp [obOf, e1, opsOb, BO.row]
                rw [show (j : Int) + 1 + 1 = j + 2 by omega]
            · have ho2 : out = out' ++ [lo] := by rw [hout, List.concat_eq_append]
              clear hout
              subst ho2
              have w1 := i64w (out'.length : Int) (by omega) (by simp at hol; omega)
              have hlb : lateB (out' ++ [lo]) o.i = decide (o.i ≤ lo.i) := by simp [lateB]
              rw [hlb] at hd
              simp -implicitDefEqProofs [BO.row, ops_sz, ops_els, w1]
              refine ⟨by omega, fun hle => ?_, fun hgt => ⟨by simp at hol; omega, ?_⟩⟩
              · rw [if_pos (by simpa using hle)] at hd
                simp only at hd
                refine ⟨[(64, ⟨5, []⟩)], ?_, 64, ?_, ?_⟩
                · simp
                · rw [← hd]
                  simp
                · rw [← hd]
                  rfl
              · rw [if_neg (by simpa using hgt)] at hd
                refine nx (j + 2, out' ++ [lo] ++ [o]) [(68, 900)] ⟨by simp only; omega, by simp only; omega, by simp at hol ⊢; omega, ?_⟩ (by simp only; omega) (h4 := ?_)
                · simp only [show j + 2 - 1 = j + 1 by omega, g3]
                  exact hd
                · simp [obOf, e1, opsOb, BO.row, List.take_of_length_le, renL_opc]
                  rw [show (j : Int) + 1 + 1 = j + 2 by omega]
      · rw [if_pos (by simp [hf])] at hR
        simp -implicitDefEqProofs [strR, hf, ← hR]
        rfl
theorem sreadC (text name : List UInt8) (ht : text.length ≤ 1048576) : CV prog 37 [.str text, .str name] (.tup [.lst 5 ((sreadB text name).1.map BO.row), .bool (sreadB text name).2]) := by
  refine CV.of_frz (sreadO text name ht) (fun r L' hR => ?_) (hcv := by simp [clA])
  obtain ⟨id, rfl, rfl⟩ := hR
  refine ⟨by simp, by simp, by simp [opsOb, clR, BO.row, clL, clA], ?_⟩
  simp [frzAll, opsOb, List.take_of_length_le]
  exact impA_refl _
end Go.Av.F
end
section
namespace Go.Proofs
open Go.Shelf Go.RowKit Go.Sort Go.Lib
def Tryz.lays137_ren : Go.Shelf.Ren := ⟨fun | 137 => 117 | 217 => 163 | 266 => 200 | n => n, fun | 9 => 9 | 5 => 5 | 3 => 3 | n => n, fun | n => n⟩
theorem Tryz.lays137 : Go.Proofs.Lays.n137 Tryz.prog Tryz.lays137_ren := {
  mixed := by kernel_rfl
  f137 := Tryz.func117.trans (congrArg some (by kernel_rfl))
  f217 := Tryz.func163.trans (congrArg some (by kernel_rfl))
  f266 := Tryz.func200.trans (congrArg some (by kernel_rfl))
  t3 := Tryz.underlying3
  a3 := Tryz.isAgg3
  z3 := Tryz.sizeOf3
  v3 := Tryz.zeroValue3
  t5 := Tryz.underlying5
  a5 := Tryz.isAgg5
  z5 := Tryz.sizeOf5
  v5 := Tryz.zeroValue5
  t9 := Tryz.underlying9
  a9 := Tryz.isAgg9
  z9 := Tryz.sizeOf9
  v9 := Tryz.zeroValue9 }
theorem Tryz.strings_IndexByte (s : ByteArray) (c : Int) (w : World) :
    Calls Tryz.prog 117 #[.string s, .int .u8 c] w fun e w' => e = .returned (.int .i64 (Lib.indexByte s.data.toList c.toNat.toUInt8)) ∧ w' = w := Any.strings_IndexByte Tryz.lays137 s c w
def Tryz.laysM171_ren : Go.Shelf.Ren := ⟨fun | 171 => 62 | 243 => 106 | 246 => 151 | 283 => 186 | 284 => 187 | 285 => 188 | 286 => 189 | 129 => 221 | 317 => 220 | 318 => 222 | 319 => 223 | 320 => 224 | 337 => 242 | 338 => 243 | n => n, fun | 3 => 3 | 9 => 9 | 2 => 2 | 4 => 4 | 171 => 206 | 0 => 0 | 53 => 207 | 37 => 22 | 5 => 5 | 173 => 210 | 212 => 244 | 51 => 245 | 20 => 20 | 213 => 246 | 46 => 149 | 232 => 278 | 233 => 279 | n => n, fun | 17 => 3 | 18 => 6 | 19 => 7 | n => n⟩
theorem Tryz.laysM171 : Go.Proofs.LaysM.n171 Tryz.prog Tryz.laysM171_ren := {
  mixed := by kernel_rfl
  f129 := Tryz.func221.trans (congrArg some (by kernel_rfl))
  f171 := Tryz.func62.trans (congrArg some (by kernel_rfl))
  f243 := Tryz.func106.trans (congrArg some (by kernel_rfl))
  f246 := Tryz.func151.trans (congrArg some (by kernel_rfl))
  f283 := Tryz.func186.trans (congrArg some (by kernel_rfl))
  f284 := Tryz.func187.trans (congrArg some (by kernel_rfl))
  f285 := Tryz.func188.trans (congrArg some (by kernel_rfl))
  f286 := Tryz.func189.trans (congrArg some (by kernel_rfl))
  f317 := Tryz.func220.trans (congrArg some (by kernel_rfl))
  f318 := Tryz.func222.trans (congrArg some (by kernel_rfl))
  f319 := Tryz.func223.trans (congrArg some (by kernel_rfl))
  f320 := Tryz.func224.trans (congrArg some (by kernel_rfl))
  f337 := Tryz.func242.trans (congrArg some (by kernel_rfl))
  f338 := Tryz.func243.trans (congrArg some (by kernel_rfl))
  t0 := Tryz.underlying0
  a0 := Tryz.isAgg0
  z0 := Tryz.sizeOf0
  v0 := Tryz.zeroValue0
  t2 := Tryz.underlying2
  a2 := Tryz.isAgg2
  z2 := Tryz.sizeOf2
  v2 := Tryz.zeroValue2
  t3 := Tryz.underlying3
  a3 := Tryz.isAgg3
  z3 := Tryz.sizeOf3
  v3 := Tryz.zeroValue3
  t4 := Tryz.underlying4
  a4 := Tryz.isAgg4
  z4 := Tryz.sizeOf4
  v4 := Tryz.zeroValue4
  t5 := Tryz.underlying5
  a5 := Tryz.isAgg5
  z5 := Tryz.sizeOf5
  v5 := Tryz.zeroValue5
  t9 := Tryz.underlying9
  a9 := Tryz.isAgg9
  z9 := Tryz.sizeOf9
  v9 := Tryz.zeroValue9
  t20 := Tryz.underlying20
  a20 := Tryz.isAgg20
  z20 := Tryz.sizeOf20
  v20 := Tryz.zeroValue20
  t37 := Tryz.underlying22
  a37 := Tryz.isAgg22
  z37 := Tryz.sizeOf22
  v37 := Tryz.zeroValue22
  t46 := Tryz.underlying149
  a46 := Tryz.isAgg149
  z46 := Tryz.sizeOf149
  v46 := Tryz.zeroValue149
  t51 := Tryz.underlying245
  a51 := Tryz.isAgg245
  z51 := Tryz.sizeOf245
  v51 := Tryz.zeroValue245
  t53 := Tryz.underlying207
  a53 := Tryz.isAgg207
  z53 := Tryz.sizeOf207
  v53 := Tryz.zeroValue207
  t171 := Tryz.underlying206
  a171 := Tryz.isAgg206
  z171 := Tryz.sizeOf206
  v171 := Tryz.zeroValue206
  t173 := Tryz.underlying210
  a173 := Tryz.isAgg210
  z173 := Tryz.sizeOf210
  v173 := Tryz.zeroValue210
  t212 := Tryz.underlying244
  a212 := Tryz.isAgg244
  z212 := Tryz.sizeOf244
  v212 := Tryz.zeroValue244
  t213 := Tryz.underlying246
  a213 := Tryz.isAgg246
  z213 := Tryz.sizeOf246
  t232 := Tryz.underlying278
  a232 := Tryz.isAgg278
  z232 := Tryz.sizeOf278
  v232 := Tryz.zeroValue278
  t233 := Tryz.underlying279
  a233 := Tryz.isAgg279
  z233 := Tryz.sizeOf279
  v233 := Tryz.zeroValue279
  g17 := by kernel_rfl
  g18 := by kernel_rfl
  g19 := by kernel_rfl
  i0 := by kernel_rfl
  i2 := by kernel_rfl
  i3 := by kernel_rfl
  i4 := by kernel_rfl
  i5 := by kernel_rfl
  i9 := by kernel_rfl
  i20 := by kernel_rfl
  i37 := by kernel_rfl
  i46 := by kernel_rfl
  i51 := by kernel_rfl
  i53 := by kernel_rfl
  i171 := by kernel_rfl
  i173 := by kernel_rfl
  i212 := by kernel_rfl
  i232 := by kernel_rfl
  i233 := by kernel_rfl
  m17 := by kernel_rfl
  m18 := by kernel_rfl
  m19 := by kernel_rfl }
theorem Tryz.strconv_Itoa (n : Int) (h0 : -9223372036854775808 ≤ n) (h1 : n ≤ 9223372036854775807) (w : World) (htab : Lib.TabIs Tryz.prog w "internal/strconv.uint64pow10" .u64 Lib.pow10Tab) :
    Calls Tryz.prog 62 #[.int .i64 n] w fun e w' => e = .returned (.string ⟨(Lib.itoa n).toArray⟩) ∧ ∃ k os, w' = grow (w.drewN k) os := Any.strconv_Itoa Tryz.laysM171 n h0 h1 w htab
def Tryz.laysC172_ren : Go.Shelf.Ren := ⟨fun | 172 => 74 | 244 => 115 | 245 => 116 | 247 => 158 | 279 => 159 | 280 => 160 | 281 => 161 | 282 => 162 | 287 => 197 | 316 => 198 | 171 => 62 | 205 => 199 | 321 => 227 | 322 => 228 | 243 => 106 | 246 => 151 | 283 => 186 | 284 => 187 | 285 => 188 | 286 => 189 | 129 => 221 | 317 => 220 | 318 => 222 | 319 => 223 | 320 => 224 | 337 => 242 | 338 => 243 | n => n, fun | 9 => 9 | 3 => 3 | 75 => 111 | 76 => 112 | 4 => 4 | 5 => 5 | 167 => 183 | 37 => 22 | 0 => 0 | 85 => 184 | 2 => 2 | 168 => 186 | 53 => 207 | 175 => 213 | 46 => 149 | 210 => 216 | 127 => 251 | 145 => 254 | 143 => 252 | 21 => 21 | 171 => 206 | 173 => 210 | 212 => 244 | 51 => 245 | 20 => 20 | 213 => 246 | 232 => 278 | 233 => 279 | 80 => 283 | n => n, fun | 15 => 1 | 16 => 2 | 17 => 3 | 18 => 6 | 19 => 7 | n => n⟩
theorem Tryz.laysC172 : Go.Proofs.LaysC.n172 Tryz.prog Tryz.laysC172_ren := {
  mixed := by kernel_rfl
  f129 := Tryz.func221.trans (congrArg some (by kernel_rfl))
  f171 := Tryz.func62.trans (congrArg some (by kernel_rfl))
  f172 := Tryz.func74.trans (congrArg some (by kernel_rfl))
  f205 := Tryz.func199.trans (congrArg some (by kernel_rfl))
  f243 := Tryz.func106.trans (congrArg some (by kernel_rfl))
  f244 := Tryz.func115.trans (congrArg some (by kernel_rfl))
  f245 := Tryz.func116.trans (congrArg some (by kernel_rfl))
  f246 := Tryz.func151.trans (congrArg some (by kernel_rfl))
  f247 := Tryz.func158.trans (congrArg some (by kernel_rfl))
  f279 := Tryz.func159.trans (congrArg some (by kernel_rfl))
  f280 := Tryz.func160.trans (congrArg some (by kernel_rfl))
  f281 := Tryz.func161.trans (congrArg some (by kernel_rfl))
  f282 := Tryz.func162.trans (congrArg some (by kernel_rfl))
  f283 := Tryz.func186.trans (congrArg some (by kernel_rfl))
  f284 := Tryz.func187.trans (congrArg some (by kernel_rfl))
  f285 := Tryz.func188.trans (congrArg some (by kernel_rfl))
  f286 := Tryz.func189.trans (congrArg some (by kernel_rfl))
  f287 := Tryz.func197.trans (congrArg some (by kernel_rfl))
  f316 := Tryz.func198.trans (congrArg some (by kernel_rfl))
  f317 := Tryz.func220.trans (congrArg some (by kernel_rfl))
  f318 := Tryz.func222.trans (congrArg some (by kernel_rfl))
  f319 := Tryz.func223.trans (congrArg some (by kernel_rfl))
  f320 := Tryz.func224.trans (congrArg some (by kernel_rfl))
  f321 := Tryz.func227.trans (congrArg some (by kernel_rfl))
  f322 := Tryz.func228.trans (congrArg some (by kernel_rfl))
  f337 := Tryz.func242.trans (congrArg some (by kernel_rfl))
  f338 := Tryz.func243.trans (congrArg some (by kernel_rfl))
  t0 := Tryz.underlying0
  a0 := Tryz.isAgg0
  z0 := Tryz.sizeOf0
  v0 := Tryz.zeroValue0
  t2 := Tryz.underlying2
  a2 := Tryz.isAgg2
  z2 := Tryz.sizeOf2
  v2 := Tryz.zeroValue2
  t3 := Tryz.underlying3
  a3 := Tryz.isAgg3
  z3 := Tryz.sizeOf3
  v3 := Tryz.zeroValue3
  t4 := Tryz.underlying4
  a4 := Tryz.isAgg4
  z4 := Tryz.sizeOf4
  v4 := Tryz.zeroValue4
  t5 := Tryz.underlying5
  a5 := Tryz.isAgg5
  z5 := Tryz.sizeOf5
  v5 := Tryz.zeroValue5
  t9 := Tryz.underlying9
  a9 := Tryz.isAgg9
  z9 := Tryz.sizeOf9
  v9 := Tryz.zeroValue9
  t20 := Tryz.underlying20
  a20 := Tryz.isAgg20
  z20 := Tryz.sizeOf20
  v20 := Tryz.zeroValue20
  t21 := Tryz.underlying21
  a21 := Tryz.isAgg21
  z21 := Tryz.sizeOf21
  v21 := Tryz.zeroValue21
  t37 := Tryz.underlying22
  a37 := Tryz.isAgg22
  z37 := Tryz.sizeOf22
  v37 := Tryz.zeroValue22
  t46 := Tryz.underlying149
  a46 := Tryz.isAgg149
  z46 := Tryz.sizeOf149
  v46 := Tryz.zeroValue149
  t51 := Tryz.underlying245
  a51 := Tryz.isAgg245
  z51 := Tryz.sizeOf245
  v51 := Tryz.zeroValue245
  t53 := Tryz.underlying207
  a53 := Tryz.isAgg207
  z53 := Tryz.sizeOf207
  v53 := Tryz.zeroValue207
  t75 := Tryz.underlying111
  a75 := Tryz.isAgg111
  z75 := Tryz.sizeOf111
  v75 := Tryz.zeroValue111
  t76 := Tryz.underlying112
  a76 := Tryz.isAgg112
  z76 := Tryz.sizeOf112
  v76 := Tryz.zeroValue112
  t85 := Tryz.underlying184
  a85 := Tryz.isAgg184
  z85 := Tryz.sizeOf184
  v85 := Tryz.zeroValue184
  t127 := Tryz.underlying251
  a127 := Tryz.isAgg251
  z127 := Tryz.sizeOf251
  v127 := Tryz.zeroValue251
  t143 := Tryz.underlying252
  a143 := Tryz.isAgg252
  z143 := Tryz.sizeOf252
  v143 := Tryz.zeroValue252
  t145 := Tryz.underlying254
  a145 := Tryz.isAgg254
  z145 := Tryz.sizeOf254
  v145 := Tryz.zeroValue254
  t167 := Tryz.underlying183
  a167 := Tryz.isAgg183
  z167 := Tryz.sizeOf183
  v167 := Tryz.zeroValue183
  t168 := Tryz.underlying186
  a168 := Tryz.isAgg186
  z168 := Tryz.sizeOf186
  v168 := Tryz.zeroValue186
  t171 := Tryz.underlying206
  a171 := Tryz.isAgg206
  z171 := Tryz.sizeOf206
  v171 := Tryz.zeroValue206
  t173 := Tryz.underlying210
  a173 := Tryz.isAgg210
  z173 := Tryz.sizeOf210
  v173 := Tryz.zeroValue210
  t175 := Tryz.underlying213
  a175 := Tryz.isAgg213
  z175 := Tryz.sizeOf213
  v175 := Tryz.zeroValue213
  t210 := Tryz.underlying216
  a210 := Tryz.isAgg216
  z210 := Tryz.sizeOf216
  v210 := Tryz.zeroValue216
  t212 := Tryz.underlying244
  a212 := Tryz.isAgg244
  z212 := Tryz.sizeOf244
  v212 := Tryz.zeroValue244
  t213 := Tryz.underlying246
  a213 := Tryz.isAgg246
  z213 := Tryz.sizeOf246
  t232 := Tryz.underlying278
  a232 := Tryz.isAgg278
  z232 := Tryz.sizeOf278
  v232 := Tryz.zeroValue278
  t233 := Tryz.underlying279
  a233 := Tryz.isAgg279
  z233 := Tryz.sizeOf279
  v233 := Tryz.zeroValue279
  g15 := by kernel_rfl
  g16 := by kernel_rfl
  g17 := by kernel_rfl
  g18 := by kernel_rfl
  g19 := by kernel_rfl
  t80 := Tryz.underlying283
  a80 := Tryz.isAgg283
  z80 := Tryz.sizeOf283
  v80 := Tryz.zeroValue283
  i0 := by kernel_rfl
  i2 := by kernel_rfl
  i3 := by kernel_rfl
  i4 := by kernel_rfl
  i5 := by kernel_rfl
  i9 := by kernel_rfl
  i20 := by kernel_rfl
  i21 := by kernel_rfl
  i37 := by kernel_rfl
  i46 := by kernel_rfl
  i51 := by kernel_rfl
  i53 := by kernel_rfl
  i75 := by kernel_rfl
  i76 := by kernel_rfl
  i80 := by kernel_rfl
  i85 := by kernel_rfl
  i127 := by kernel_rfl
  i143 := by kernel_rfl
  i145 := by kernel_rfl
  i167 := by kernel_rfl
  i168 := by kernel_rfl
  i171 := by kernel_rfl
  i173 := by kernel_rfl
  i175 := by kernel_rfl
  i210 := by kernel_rfl
  i212 := by kernel_rfl
  i232 := by kernel_rfl
  i233 := by kernel_rfl
  m15 := by kernel_rfl
  m16 := by kernel_rfl
  m17 := by kernel_rfl
  m18 := by kernel_rfl
  m19 := by kernel_rfl
  c0 := by kernel_rfl
  c2 := by kernel_rfl
  c3 := by kernel_rfl
  c4 := by kernel_rfl
  c5 := by kernel_rfl
  c9 := by kernel_rfl
  c20 := by kernel_rfl
  c21 := by kernel_rfl
  c37 := by kernel_rfl
  c46 := by kernel_rfl
  c51 := by kernel_rfl
  c53 := by kernel_rfl
  c75 := by kernel_rfl
  c76 := by kernel_rfl
  c80 := by kernel_rfl
  c85 := by kernel_rfl
  c127 := by kernel_rfl
  c143 := by kernel_rfl
  c145 := by kernel_rfl
  c167 := by kernel_rfl
  c168 := by kernel_rfl
  c171 := by kernel_rfl
  c173 := by kernel_rfl
  c175 := by kernel_rfl
  c210 := by kernel_rfl
  c212 := by kernel_rfl
  c213 := by kernel_rfl
  c232 := by kernel_rfl
  c233 := by kernel_rfl }
theorem Tryz.strconv_Atoi_ok (s : ByteArray) (hmax : s.size ≤ 9223372036854775806) (v : Int) (h : Lib.atoiAll s.data.toList = .ok v) (w : World) :
    Calls Tryz.prog 74 #[.string s] w fun e w' => e = .returned (.tuple #[.int .i64 v, .nilIface]) ∧ (w' = w ∨ ∃ t, w' = Lib.bytesWorld w 5 t) := Any.strconv_Atoi_ok Tryz.laysC172 s hmax v h w
theorem Tryz.strconv_Atoi_syntax (s : ByteArray) (hlim : s.size ≤ 281474976710656) (h : Lib.atoiAll s.data.toList = Lib.atoiAll []) (ev : Value) (w : World) (hv : w.cell? ⟨1, 0, none⟩ = some ev) (hev : ev = .nilIface ∨ ∃ te pe, ev = .iface te pe) :
    Calls Tryz.prog 74 #[.string s] w fun e w' => ∃ N, e = .returned (.tuple #[.int .i64 (0), .iface 186 (.pointer (some ⟨N, 0, none⟩))]) ∧ w.heap.size ≤ N ∧ w'.heap[N]? = some (.cells #[.string ⟨#[65, 116, 111, 105]⟩, .string s, ev] 216 (0, 0)) ∧ Below w.heap.size w w' := Any.strconv_Atoi_syntax Tryz.laysC172 s hlim h ev w hv hev
theorem Tryz.strconv_Atoi_range (s : ByteArray) (hlim : s.size ≤ 281474976710656) (h : Lib.atoiAll s.data.toList = .range) (ev : Value) (w : World) (hv : w.cell? ⟨2, 0, none⟩ = some ev) (hev : ev = .nilIface ∨ ∃ te pe, ev = .iface te pe) :
    Calls Tryz.prog 74 #[.string s] w fun e w' => ∃ N, e = .returned (.tuple #[.int .i64 (Lib.atoiSat s.data.toList), .iface 186 (.pointer (some ⟨N, 0, none⟩))]) ∧ w.heap.size ≤ N ∧ w'.heap[N]? = some (.cells #[.string ⟨#[65, 116, 111, 105]⟩, .string s, ev] 216 (0, 0)) ∧ Below w.heap.size w w' := Any.strconv_Atoi_range Tryz.laysC172 s hlim h ev w hv hev
def Tryz.lays219_ren : Go.Shelf.Ren := ⟨fun | 219 => 157 | 217 => 163 | 225 => 194 | 224 => 195 | 267 => 196 | 266 => 200 | 314 => 226 | n => n, fun | 9 => 9 | 3 => 3 | 4 => 4 | 5 => 5 | 46 => 149 | 146 => 248 | 51 => 245 | n => n, fun | 1 => 0 | n => n⟩
theorem Tryz.lays219 : Go.Proofs.Lays.n219 Tryz.prog Tryz.lays219_ren := {
  mixed := by kernel_rfl
  f217 := Tryz.func163.trans (congrArg some (by kernel_rfl))
  f219 := Tryz.func157.trans (congrArg some (by kernel_rfl))
  f224 := Tryz.func195.trans (congrArg some (by kernel_rfl))
  f225 := Tryz.func194.trans (congrArg some (by kernel_rfl))
  f266 := Tryz.func200.trans (congrArg some (by kernel_rfl))
  f267 := Tryz.func196.trans (congrArg some (by kernel_rfl))
  f314 := Tryz.func226.trans (congrArg some (by kernel_rfl))
  t3 := Tryz.underlying3
  a3 := Tryz.isAgg3
  z3 := Tryz.sizeOf3
  v3 := Tryz.zeroValue3
  t4 := Tryz.underlying4
  a4 := Tryz.isAgg4
  z4 := Tryz.sizeOf4
  v4 := Tryz.zeroValue4
  t5 := Tryz.underlying5
  a5 := Tryz.isAgg5
  z5 := Tryz.sizeOf5
  v5 := Tryz.zeroValue5
  t9 := Tryz.underlying9
  a9 := Tryz.isAgg9
  z9 := Tryz.sizeOf9
  v9 := Tryz.zeroValue9
  t46 := Tryz.underlying149
  a46 := Tryz.isAgg149
  z46 := Tryz.sizeOf149
  v46 := Tryz.zeroValue149
  t51 := Tryz.underlying245
  a51 := Tryz.isAgg245
  z51 := Tryz.sizeOf245
  v51 := Tryz.zeroValue245
  t146 := Tryz.underlying248
  a146 := Tryz.isAgg248
  z146 := Tryz.sizeOf248
  v146 := Tryz.zeroValue248
  g1 := by kernel_rfl }
theorem Tryz.stringslite_Index_one (s : ByteArray) (c : UInt8) (w : World) :
    Calls Tryz.prog 157 #[.string s, .string ⟨#[c]⟩] w fun e w' => e = .returned (.int .i64 (Lib.indexByte s.data.toList c)) ∧ w' = w := Any.stringslite_Index_one Tryz.lays219 s c w
def Tryz.lays143_ren : Go.Shelf.Ren := ⟨fun | 143 => 156 | 219 => 157 | 217 => 163 | 225 => 194 | 224 => 195 | 267 => 196 | 266 => 200 | 314 => 226 | n => n, fun | 9 => 9 | 3 => 3 | 4 => 4 | 5 => 5 | 46 => 149 | 146 => 248 | 51 => 245 | n => n, fun | 1 => 0 | n => n⟩
theorem Tryz.lays143 : Go.Proofs.Lays.n143 Tryz.prog Tryz.lays143_ren := {
  mixed := by kernel_rfl
  f143 := Tryz.func156.trans (congrArg some (by kernel_rfl))
  f217 := Tryz.func163.trans (congrArg some (by kernel_rfl))
  f219 := Tryz.func157.trans (congrArg some (by kernel_rfl))
  f224 := Tryz.func195.trans (congrArg some (by kernel_rfl))
  f225 := Tryz.func194.trans (congrArg some (by kernel_rfl))
  f266 := Tryz.func200.trans (congrArg some (by kernel_rfl))
  f267 := Tryz.func196.trans (congrArg some (by kernel_rfl))
  f314 := Tryz.func226.trans (congrArg some (by kernel_rfl))
  t3 := Tryz.underlying3
  a3 := Tryz.isAgg3
  z3 := Tryz.sizeOf3
  v3 := Tryz.zeroValue3
  t4 := Tryz.underlying4
  a4 := Tryz.isAgg4
  z4 := Tryz.sizeOf4
  v4 := Tryz.zeroValue4
  t5 := Tryz.underlying5
  a5 := Tryz.isAgg5
  z5 := Tryz.sizeOf5
  v5 := Tryz.zeroValue5
  t9 := Tryz.underlying9
  a9 := Tryz.isAgg9
  z9 := Tryz.sizeOf9
  v9 := Tryz.zeroValue9
  t46 := Tryz.underlying149
  a46 := Tryz.isAgg149
  z46 := Tryz.sizeOf149
  v46 := Tryz.zeroValue149
  t51 := Tryz.underlying245
  a51 := Tryz.isAgg245
  z51 := Tryz.sizeOf245
  v51 := Tryz.zeroValue245
  t146 := Tryz.underlying248
  a146 := Tryz.isAgg248
  z146 := Tryz.sizeOf248
  v146 := Tryz.zeroValue248
  g1 := by kernel_rfl }
theorem Tryz.strings_Index_one (s : ByteArray) (c : UInt8) (w : World) :
    Calls Tryz.prog 156 #[.string s, .string ⟨#[c]⟩] w fun e w' => e = .returned (.int .i64 (Lib.indexByte s.data.toList c)) ∧ w' = w := Any.strings_Index_one Tryz.lays143 s c w
def Tryz.lays138_ren : Go.Shelf.Ren := ⟨fun | 138 => 155 | 195 => 192 | 218 => 193 | 143 => 156 | 219 => 157 | 217 => 163 | 225 => 194 | 224 => 195 | 267 => 196 | 266 => 200 | 314 => 226 | n => n, fun | 9 => 9 | 3 => 3 | 4 => 4 | 5 => 5 | 0 => 0 | 46 => 149 | 146 => 248 | 51 => 245 | n => n, fun | 1 => 0 | n => n⟩
theorem Tryz.lays138 : Go.Proofs.Lays.n138 Tryz.prog Tryz.lays138_ren := {
  mixed := by kernel_rfl
  f138 := Tryz.func155.trans (congrArg some (by kernel_rfl))
  f143 := Tryz.func156.trans (congrArg some (by kernel_rfl))
  f195 := Tryz.func192.trans (congrArg some (by kernel_rfl))
  f217 := Tryz.func163.trans (congrArg some (by kernel_rfl))
  f218 := Tryz.func193.trans (congrArg some (by kernel_rfl))
  f219 := Tryz.func157.trans (congrArg some (by kernel_rfl))
  f224 := Tryz.func195.trans (congrArg some (by kernel_rfl))
  f225 := Tryz.func194.trans (congrArg some (by kernel_rfl))
  f266 := Tryz.func200.trans (congrArg some (by kernel_rfl))
  f267 := Tryz.func196.trans (congrArg some (by kernel_rfl))
  f314 := Tryz.func226.trans (congrArg some (by kernel_rfl))
  t0 := Tryz.underlying0
  a0 := Tryz.isAgg0
  z0 := Tryz.sizeOf0
  v0 := Tryz.zeroValue0
  t3 := Tryz.underlying3
  a3 := Tryz.isAgg3
  z3 := Tryz.sizeOf3
  v3 := Tryz.zeroValue3
  t4 := Tryz.underlying4
  a4 := Tryz.isAgg4
  z4 := Tryz.sizeOf4
  v4 := Tryz.zeroValue4
  t5 := Tryz.underlying5
  a5 := Tryz.isAgg5
  z5 := Tryz.sizeOf5
  v5 := Tryz.zeroValue5
  t9 := Tryz.underlying9
  a9 := Tryz.isAgg9
  z9 := Tryz.sizeOf9
  v9 := Tryz.zeroValue9
  t46 := Tryz.underlying149
  a46 := Tryz.isAgg149
  z46 := Tryz.sizeOf149
  v46 := Tryz.zeroValue149
  t51 := Tryz.underlying245
  a51 := Tryz.isAgg245
  z51 := Tryz.sizeOf245
  v51 := Tryz.zeroValue245
  t146 := Tryz.underlying248
  a146 := Tryz.isAgg248
  z146 := Tryz.sizeOf248
  v146 := Tryz.zeroValue248
  g1 := by kernel_rfl }
theorem Tryz.strings_Count_one (s : ByteArray) (c : UInt8) (w : World) :
    Calls Tryz.prog 155 #[.string s, .string ⟨#[c]⟩] w fun e w' => e = .returned (.int .i64 (Lib.countByte s.data.toList c)) ∧ w' = w := Any.strings_Count_one Tryz.lays138 s c w
end Go.Proofs
end
section
namespace Go.Av.F
open Go Go.Av Go.Proofs Go.Proofs.Tryz Go.RowKit
set_option linter.unusedSimpArgs false
set_option linter.unusedVariables false
set_option maxRecDepth 100000
theorem str_rel {w : World} {Z : Addr → Prop} {γ : Gm} {s : List UInt8} {x : Value} (h : AVRel w Z γ (.str s) x) : x = .string ⟨s.toArray⟩ := by cases h; rfl
theorem int_rel {w : World} {Z : Addr → Prop} {γ : Gm} {k : IntKind} {n : Int} {x : Value} (h : AVRel w Z γ (.int k n) x) : x = .int k n := by cases h; rfl
theorem idx_ge (c : UInt8) : ∀ (s : List UInt8), -1 ≤ Lib.indexByte s c
  | [] => by simp [Lib.indexByte]
  | x :: r => by
    have := idx_ge c r
    simp only [Lib.indexByte]
    repeat' split
    all_goals omega
theorem findB_idx (c : UInt8) : ∀ (s : List UInt8) (i : Int), findB c s i = if Lib.indexByte s c = -1 then -1 else i + Lib.indexByte s c
  | [], i => by simp [findB, Lib.indexByte]
  | x :: r, i => by
    have h1 := findB_idx c r (i + 1)
    have h2 := idx_ge c r
    simp only [findB, Lib.indexByte]
    by_cases hx : x = c
    · simp [hx]
    · have : (x == c) = false := by simpa using hx
      simp only [hx, this, if_false, h1, beq_iff_eq, Bool.false_eq_true]
      split
      · simp
      · rw [if_neg (by omega)]
        omega
theorem findB_lib (c : UInt8) (s : List UInt8) : Lib.indexByte s c = findB c s 0 := by
  have := findB_idx c s 0
  rw [this]
  split <;> omega
theorem idxByteC (s : List UInt8) (c : UInt8) : CV prog 117 [.str s, .int .u8 (c.toNat : Int)] (.int .i64 (findB c s 0)) := by
  refine cv_of_calls0 fun w Z vs hv hg hz => ?_
  obtain ⟨x, y, rfl, h1, h2⟩ := crel2 hv
  rw [str_rel h1, int_rel h2]
  refine (Tryz.strings_IndexByte _ _ w).mono ?_
  rintro e w' ⟨rfl, rfl⟩
  have e1 : ((c.toNat : Int).toNat).toUInt8 = c := by simp
  exact ⟨_, rfl, by rw [e1, ← findB_lib]; exact .int _ _ _, .refl _ _⟩
theorem idxStrC (s : List UInt8) (c : UInt8) : CV prog 156 [.str s, .str [c]] (.int .i64 (findB c s 0)) := by
  refine cv_of_calls0 fun w Z vs hv hg hz => ?_
  obtain ⟨x, y, rfl, h1, h2⟩ := crel2 hv
  rw [str_rel h1, str_rel h2]
  refine (Tryz.strings_Index_one _ c w).mono ?_
  rintro e w' ⟨rfl, rfl⟩
  exact ⟨_, rfl, by rw [← findB_lib]; exact .int _ _ _, .refl _ _⟩
theorem idxSlC (s : List UInt8) (c : UInt8) : CV prog 157 [.str s, .str [c]] (.int .i64 (findB c s 0)) := by
  refine cv_of_calls0 fun w Z vs hv hg hz => ?_
  obtain ⟨x, y, rfl, h1, h2⟩ := crel2 hv
  rw [str_rel h1, str_rel h2]
  refine (Tryz.stringslite_Index_one _ c w).mono ?_
  rintro e w' ⟨rfl, rfl⟩
  exact ⟨_, rfl, by rw [← findB_lib]; exact .int _ _ _, .refl _ _⟩
theorem cntC (s : List UInt8) (c : UInt8) : CV prog 155 [.str s, .str [c]] (.int .i64 (s.count c : Nat)) := by
  refine cv_of_calls0 fun w Z vs hv hg hz => ?_
  obtain ⟨x, y, rfl, h1, h2⟩ := crel2 hv
  rw [str_rel h1, str_rel h2]
  refine (Tryz.strings_Count_one _ c w).mono ?_
  rintro e w' ⟨rfl, rfl⟩
  exact ⟨_, rfl, .int _ _ _, .refl _ _⟩
theorem below_grow (w : World) (k : Nat) (os : Array Obj) : Below w.heap.size w (Go.Sort.grow (w.drewN k) os) :=
  ⟨rfl, rfl, rfl, by simp [Go.Sort.grow, World.drewN], fun i hi => by
    show ((w.drewN k).heap ++ os)[i]? = _
    rw [Array.getElem?_append_left (by simpa [World.drewN] using hi)]
    rfl⟩
theorem itoaC (n : Int) (h0 : -9223372036854775808 ≤ n) (h1 : n ≤ 9223372036854775807) : CV prog 62 [.int .i64 n] (.str (Lib.itoa n)) := by
  refine cv_of_calls0 fun w Z vs hv hg hz => ?_
  obtain ⟨x, rfl, hx⟩ := crel1 hv
  rw [int_rel hx]
  have htab : Lib.TabIs prog w "internal/strconv.uint64pow10" .u64 Lib.pow10Tab := by
    have hgn : prog.globalNamed "internal/strconv.uint64pow10" = some 3 := by kernel_rfl
    obtain ⟨ty, fz, hh⟩ := gl_var hg (g := 3) (cs := Lib.pow10Tab.map (AV.int .u64)) (by unfold gtab; rfl) (Lib.pow10Tab.map fun z => Value.int .u64 z) (by simp) (fun x j hj hr => by
      simp only [List.getD_eq_getElem?_getD, List.getElem?_map] at hr ⊢
      simp only [List.length_map] at hj
      rw [List.getElem?_eq_getElem hj] at hr ⊢
      exact int_rel hr) (by simp [Lib.pow10Tab])
    unfold Lib.TabIs World.var?
    rw [hgn]
    simp only [Option.bind_some, hh]
  refine (Tryz.strconv_Itoa n h0 h1 w htab).mono ?_
  rintro e w' ⟨rfl, k, os, rfl⟩
  exact ⟨_, rfl, .str _ _, below_grow _ _ _⟩
def atoiV (s : List UInt8) : Int := match Lib.atoiAll s with
  | .ok v => v
  | .range => Lib.atoiSat s
  | _ => 0
def atoiK (s : List UInt8) : Bool := match Lib.atoiAll s with
  | .ok _ => true
  | _ => false
def errA (b : Bool) : AV := if b then .nili else .ifc
theorem gl_ifc {w : World} {Z : Addr → Prop} (h : GlR w Z) {g : Nat} (hg : gtab g = some [.ifc]) : ∃ t v, w.cell? ⟨g, 0, none⟩ = some (.iface t v) := by
  obtain ⟨h1, _, _⟩ := h g _ hg
  generalize hp : (Value.pointer (some ⟨g, 0, none⟩)) = u at h1
  cases h1 with
  | elm _ _ A vf hA hz hc hr =>
    injection hp with hp; injection hp with hp; subst hp
    have c0 := hc 0 (by simp)
    have r0 := hr 0 (by simp)
    simp only [List.getD_cons_zero] at r0
    generalize vf 0 = x at c0 r0
    cases r0 with
    | ifc _ t v => exact ⟨t, v, by simpa [Addr.at] using c0⟩
theorem atoiC (s : List UInt8) (hl : s.length ≤ 281474976710656) : CV prog 74 [.str s] (.tup [.int .i64 (atoiV s), errA (atoiK s)]) := by
  refine cv_of_calls0 (fun w Z vs hv hg hz => ?_) (hcv := by unfold errA; split <;> simp [clA])
  obtain ⟨x, rfl, hx⟩ := crel1 hv
  rw [str_rel hx]
  have tup : ∀ {w : World} {a b : AV} {p q : Value}, AVRel w Z noG a p → AVRel w Z noG b q → AVRel w Z noG (.tup [a, b]) (.tuple #[p, q]) := fun h1 h2 => .tup _ _ _ rfl fun j hj => by
    match j, hj with
    | 0, _ => exact h1
    | 1, _ => exact h2
  have hsz : (⟨s.toArray⟩ : ByteArray).size = s.length := by simp [ByteArray.size]
  unfold atoiV atoiK
  rcases hA : Lib.atoiAll s with v | _ | _
  · refine (Tryz.strconv_Atoi_ok ⟨s.toArray⟩ (by rw [hsz]; omega) v (by simpa using hA) w).mono ?_
    rintro e w' ⟨rfl, hw⟩
    refine ⟨_, rfl, tup (.int _ _ _) (.nili _), ?_⟩
    rcases hw with rfl | ⟨t, rfl⟩
    · exact .refl _ _
    · unfold Lib.bytesWorld
      refine ⟨rfl, rfl, rfl, ?_, fun k hk => ?_⟩
      · show w.heap.size ≤ (Array.modify _ _ _).size
        rw [Array.size_modify]
        refine Nat.le_of_lt ?_
        show w.heap.size < (w.drew.heap.push _).size
        rw [Array.size_push]
        exact Nat.lt_succ_self _
      · show (Array.modify _ w.heap.size _)[k]? = _
        rw [Array.getElem?_modify, if_neg (by omega)]
        exact Below.heap_alloc w.drew _ k hk
  · obtain ⟨te, pe, hc⟩ := gl_ifc hg (g := 1) (by unfold gtab; rfl)
    refine (Tryz.strconv_Atoi_syntax ⟨s.toArray⟩ (by rw [hsz]; omega) hA _ w hc (.inr ⟨te, pe, rfl⟩)).mono ?_
    rintro e w' ⟨N, rfl, _, _, hb⟩
    exact ⟨_, rfl, tup (.int _ _ _) (.ifc _ _ _), hb⟩
  · obtain ⟨te, pe, hc⟩ := gl_ifc hg (g := 2) (by unfold gtab; rfl)
    refine (Tryz.strconv_Atoi_range ⟨s.toArray⟩ (by rw [hsz]; omega) (by simpa using hA) _ w hc (.inr ⟨te, pe, rfl⟩)).mono ?_
    rintro e w' ⟨N, rfl, _, _, hb⟩
    exact ⟨_, rfl, tup (.int _ _ _) (.ifc _ _ _), hb⟩
end Go.Av.F
end
section
namespace Go.Av.F
open Go Go.Av Go.Proofs Go.Proofs.Tryz
set_option linter.unusedSimpArgs false
set_option linter.unusedVariables false
set_option maxRecDepth 100000
def cut1 (c : UInt8) (s : List UInt8) : List UInt8 × List UInt8 × Bool := if findB c s 0 < 0 then (s, [], false) else (s.take (findB c s 0).toNat, s.drop ((findB c s 0).toNat + 1), true)
theorem slCutC (s : List UInt8) (c : UInt8) (hs : s.length ≤ 1048576) : CV prog 114 [.str s, .str [c]] (.tup [.str (cut1 c s).1, .str (cut1 c s).2.1, .bool (cut1 c s).2.2]) := by
  obtain ⟨R, hR⟩ : ∃ R, cut1 c s = R := ⟨_, rfl⟩
  rw [hR]
  unfold cut1 at hR
  have hlt := findB_lt c s 0 (by omega)
  have hge := findB_ge c s 0 (by omega)
  have fc := idxSlC s c
  generalize findB c s 0 = k at *
  refine cvx func114 [] ntmps114 rfl rfl rfl ?_
  simp -implicitDefEqProofs
  refine fc.call ?_
  by_cases h : k < 0
  · rw [if_pos h] at hR
    have h' : ¬ 0 ≤ k := by omega
    simp -implicitDefEqProofs [h', ← hR]
  · rw [if_neg h] at hR
    have h' : 0 ≤ k := by omega
    have e1 := i64w (k + 1) (by omega) (by omega)
    have d1 : (k + 1).toNat = k.toNat + 1 := by omega
    have d2 : List.take (s.length - (k.toNat + 1)) (List.drop (k.toNat + 1) s) = List.drop (k.toNat + 1) s := List.take_of_length_le (by simp)
    simp -implicitDefEqProofs [h', e1, d1, d2, ← hR]
    repeat' first | with_reducible refine And.intro ?_ ?_ | omega
theorem cutC (s : List UInt8) (c : UInt8) (hs : s.length ≤ 1048576) : CV prog 73 [.str s, .str [c]] (.tup [.str (cut1 c s).1, .str (cut1 c s).2.1, .bool (cut1 c s).2.2]) := by
  refine cvx func73 [] ntmps73 rfl rfl rfl ?_
  simp -implicitDefEqProofs
  refine (slCutC s c hs).call ?_
  simp -implicitDefEqProofs
theorem cutR_find (c : UInt8) : ∀ (s cur : List UInt8), cutR c s cur = if findB c s 0 < 0 then [cur ++ s] else (cur ++ s.take (findB c s 0).toNat) :: cutR c (s.drop ((findB c s 0).toNat + 1)) []
  | [], cur => by simp [cutR, findB]
  | x :: r, cur => by
    have ih := cutR_find c r (cur ++ [x])
    have h1 := findB_idx c r (0 + 1)
    have h2 := findB_idx c r 0
    have h3 := idx_ge c r
    simp only [cutR, findB]
    by_cases hx : x = c
    · simp [hx]
    · simp only [hx, if_false]
      rw [ih, h1, h2]
      by_cases h : Lib.indexByte r c = -1
      · simp [h]
      · have e : (0 + 1 + Lib.indexByte r c).toNat = (0 + Lib.indexByte r c).toNat + 1 := by omega
        rw [if_neg h, if_neg h, e, if_neg (by omega), if_neg (by omega)]
        simp
theorem count_find (c : UInt8) : ∀ (s : List UInt8), s.count c = if findB c s 0 < 0 then 0 else (s.drop ((findB c s 0).toNat + 1)).count c + 1
  | [] => by simp [findB]
  | x :: r => by
    have ih := count_find c r
    have h1 := findB_idx c r (0 + 1)
    have h2 := findB_idx c r 0
    have h3 := idx_ge c r
    simp only [findB]
    by_cases hx : x = c
    · simp [hx]
    · have hc : List.count c (x :: r) = List.count c r := List.count_cons_of_ne (fun h => hx h)
      simp only [hx, if_false]
      rw [hc, ih, h1, h2]
      by_cases h : Lib.indexByte r c = -1
      · simp [h]
      · have e : (0 + 1 + Lib.indexByte r c).toNat = (0 + Lib.indexByte r c).toNat + 1 := by omega
        rw [if_neg h, if_neg h, e, if_neg (by omega), if_neg (by omega)]
        simp
theorem count_len (c : UInt8) (s : List UInt8) : s.count c ≤ s.length := List.count_le_length
theorem gsplitO (s : List UInt8) (c : UInt8) (hs : s.length ≤ 1048576) : ACall prog 113 [.str s, .str [c], .int .i64 0, .int .i64 (-1)] [] (fun r L' => r = .sl 900 0 (cutR c s []).length ∧ L' = [(900, ⟨1, (cutR c s []).map strR⟩)]) := by
  obtain ⟨R, hR⟩ : ∃ R, cutR c s [] = R := ⟨_, rfl⟩
  rw [hR]
  obtain ⟨N, hN⟩ : ∃ N, s.count c = N := ⟨_, rfl⟩
  have hNl := count_len c s
  have cc := cntC s c
  rw [hN] at cc hNl
  have e1 := i64w ((N : Int) + 1) (by omega) (by omega)
  have e2 := i64w ((s.length : Int) + 1) (by omega) (by omega)
  have e3 : ¬ (s.length : Int) + 1 < (N : Int) + 1 := by omega
  refine acx func113 [] ntmps113 rfl rfl rfl ?_
  simp -implicitDefEqProofs
  refine cc.call ?_
  have e4 : ((N : Int) + 1).toNat = N + 1 := by omega
  have e5 : (N : Int) + 1 - 1 = N := by omega
  have e6 := i64w (N : Int) (by omega) (by omega)
  simp -implicitDefEqProofs [e1, e2, e3, e4, e5, e6]
  refine ⟨⟨by omega, by omega⟩, ?_⟩
  refine ev_lo (X := Nat × List UInt8 × List (List UInt8)) [0, 1, 2, 3, 9, 10] [(31, 900)] (fun x => [(0, .str x.2.1), (9, .sl 900 0 (N + 1)), (10, .int .i64 x.1)]) (fun x => [(900, ⟨1, x.2.2.map strR⟩)]) (fun x => N - x.1)
    (fun x => x.1 ≤ N ∧ x.2.2.length = N + 1 ∧ x.2.1.count c + x.1 = N ∧ x.2.1.length ≤ s.length ∧ x.2.2.take x.1 ++ cutR c x.2.1 [] = R) (0, s, List.replicate (N + 1) []) ⟨by simp, by simp, by simp [hN], by simp, by simpa using hR⟩ ?_ (he := by simp [obOf, strR])
  rintro ⟨i, t, ps⟩ ⟨hi, hpl, hct, htl, hd⟩
  simp only at hi hpl hct htl hd
  have hcf := count_find c t
  have hcr := cutR_find c t []
  have fc := idxStrC t c
  have hlt := findB_lt c t 0 (by omega)
  have hge := findB_ge c t 0 (by omega)
  by_cases h1 : i < N
  · have h1' : (i : Int) < N := by omega
    generalize findB c t 0 = k at *
    have hk : ¬ k < 0 := by
      intro hk
      rw [if_pos hk] at hcf
      omega
    rw [if_neg hk] at hcf hcr
    have w1 := i64w k (by omega) (by omega)
    have w2 := i64w (k + 1) (by omega) (by omega)
    have w3 := i64w ((i : Int) + 1) (by omega) (by omega)
    have d1 : (k + 1).toNat = k.toNat + 1 := by omega
    have d2 : List.take (t.length - (k.toNat + 1)) (List.drop (k.toNat + 1) t) = List.drop (k.toNat + 1) t := List.take_of_length_le (by simp)
    simp -implicitDefEqProofs [h1']
    refine fc.call ?_
    simp -implicitDefEqProofs [h1', hk, w1, w2, w3, d1, d2, hpl]
    refine ⟨⟨by omega, by omega⟩, by omega, by omega, ⟨by omega, by omega⟩, ?_⟩
    refine nx (i + 1, t.drop (k.toNat + 1), ps.set i (t.take k.toNat)) [(900, 900)] ⟨by simp only; omega, by simp only [List.length_set]; omega, by simp only; omega, by simp only [List.length_drop]; omega, ?_⟩ (by simp only; omega) (h4 := ?_)
    · show List.take (i + 1) (ps.set i (List.take k.toNat t)) ++ cutR c (List.drop (k.toNat + 1) t) [] = R
      rw [takeS (x := t.take k.toNat) (by rw [List.getElem?_set_self (by omega)]), List.take_set, List.set_eq_of_length_le (by simp; omega), List.append_assoc]
      rw [hcr] at hd
      simpa using hd
    · obtain ⟨q, hq⟩ : ∃ q, ps[i]? = some q := ⟨_, List.getElem?_eq_getElem (by omega)⟩
      simp [obOf, w3, List.map_set, strR, renL_strR, hq]
  · have : i = N := by omega
    subst this
    have h1' : ¬ (i : Int) < i := by omega
    simp -implicitDefEqProofs [hpl]
    have hk : findB c t 0 < 0 := by
      rcases hge with h | h
      · omega
      · rw [if_neg (by omega)] at hcf
        omega
    rw [if_pos hk] at hcr
    rw [hcr] at hd
    have hps : ps.set i t = R := by
      rw [← hd]
      have h2 : ps.set i t = (ps.set i t).take (i + 1) := (List.take_of_length_le (by simp [hpl])).symm
      rw [h2, takeS (x := t) (by simp [hpl]), List.take_set, List.set_eq_of_length_le (by simp; omega)]
      simp
    refine ⟨by omega, ⟨by omega, by omega⟩, ?_, ?_⟩
    · rw [← hps, List.map_set]
      simp [strR]
    · rw [e1, ← hps]
      simp [hpl]
theorem gsplitC (s : List UInt8) (c : UInt8) (hs : s.length ≤ 1048576) : CV prog 113 [.str s, .str [c], .int .i64 0, .int .i64 (-1)] (.lst 1 ((cutR c s []).map strR)) := by
  refine CV.of_frz (gsplitO s c hs) (fun r L' hR => ?_)
  obtain ⟨rfl, rfl⟩ := hR
  refine ⟨by simp, by simp, ?_, ?_⟩
  · simp [clR, strR, clL, clA]
  · simp [frzAll, List.take_of_length_le]
    exact impA_refl _
theorem splitC (s : List UInt8) (c : UInt8) (hs : s.length ≤ 1048576) : CV prog 72 [.str s, .str [c]] (.lst 1 ((cutR c s []).map strR)) := by
  refine cvx func72 [] ntmps72 rfl rfl rfl ?_
  simp -implicitDefEqProofs
  refine (gsplitC s c hs).call ?_
  simp -implicitDefEqProofs
theorem ddig_dec : ∀ (k : Nat) (out : List UInt8), ddig k out = Lib.decDigits k ++ out := by
  intro k
  induction k using Nat.strongRecOn with
  | ind k ih =>
    intro out
    rw [ddig, Lib.decDigits]
    by_cases h : k < 10
    · rw [dif_pos (by omega), dif_pos h]
      rfl
    · rw [dif_neg (by omega), dif_neg h, ih _ (by omega)]
      simp
theorem itoa_nat (k : Nat) : Lib.itoa (k : Int) = ddig k [] := by
  unfold Lib.itoa
  rw [if_neg (by omega), ddig_dec]
  simp
theorem isealC (s : List UInt8) (hs : s.length ≤ maxLen) : CV prog 64 [.str s] (.str (sealB s)) := by
  obtain ⟨R, hR⟩ : ∃ R, sealB s = R := ⟨_, rfl⟩
  rw [hR]
  have hml : maxLen = 9223372036854775807 := rfl
  have hlt := sumB_lt s (1 + s.length % 997) (by omega)
  have sc := isumC s hs
  refine cvx func64 [] ntmps64 rfl rfl rfl ?_
  unfold sealB at hR
  by_cases h : 400 < s.length
  · rw [if_pos h] at hR
    have h' : (400 : Int) < s.length := by omega
    simp -implicitDefEqProofs [h', ← hR]
  · rw [if_neg h] at hR
    have h' : ¬ (400 : Int) < s.length := by omega
    simp -implicitDefEqProofs [h']
    refine sc.call ?_
    generalize sumB s (1 + s.length % 997) = n at *
    have hl := ddig_len n []
    simp only [List.length_nil] at hl
    simp -implicitDefEqProofs
    refine (itoaC (n : Int) (by omega) (by omega)).call ?_
    rw [itoa_nat]
    simp -implicitDefEqProofs [← hR]
    omega
theorem cut1_open (s : List UInt8) : openB s = if (cut1 58 s).2.2 = true ∧ sealB (cut1 58 s).2.1 = s then ((cut1 58 s).2.1, true) else ([], false) := by
  unfold openB cut1
  by_cases h : findB 58 s 0 < 0
  · simp [h]
  · simp [h]
theorem cut1_len (c : UInt8) (s : List UInt8) : (cut1 c s).1.length ≤ s.length ∧ (cut1 c s).2.1.length ≤ s.length := by
  unfold cut1
  split <;> simp
  omega
theorem iopenC (s : List UInt8) (hs : s.length ≤ 1048576) : CV prog 71 [.str s] (.tup [.str (openB s).1, .bool (openB s).2]) := by
  obtain ⟨R, hR⟩ : ∃ R, openB s = R := ⟨_, rfl⟩
  rw [hR]
  have hml : maxLen = 9223372036854775807 := rfl
  rw [cut1_open] at hR
  have cc := cutC s 58 hs
  have cl := cut1_len 58 s
  generalize cut1 58 s = k at *
  obtain ⟨k1, k2, k3⟩ := k
  simp only at cc cl hR
  refine cvx func71 [] ntmps71 rfl rfl rfl ?_
  simp -implicitDefEqProofs
  refine cc.call ?_
  cases k3 with
  | false => simp -implicitDefEqProofs [← hR]
  | true =>
    simp -implicitDefEqProofs
    refine (isealC k2 (by omega)).call ?_
    by_cases h2 : sealB k2 = s
    · simp -implicitDefEqProofs [h2, ← hR]
    · simp -implicitDefEqProofs [h2, ← hR]
end Go.Av.F
end
section
namespace Go.Av.F
open Go Go.Av Go.Proofs Go.Proofs.Tryz
set_option linter.unusedSimpArgs false
set_option linter.unusedVariables false
set_option maxRecDepth 100000
theorem numB_le : ∀ (l : List UInt8) (n m : Nat), numB n l = some m → n * 10 ^ l.length ≤ m
  | [], n, m, h => by
    simp only [numB, Option.some.injEq] at h
    simp [h]
  | x :: r, n, m, h => by
    unfold numB at h
    split at h
    · cases h
    · have := numB_le r _ m h
      refine Nat.le_trans ?_ this
      rw [List.length_cons, Nat.pow_succ, Nat.mul_comm (10 ^ r.length), ← Nat.mul_assoc]
      exact Nat.mul_le_mul_right _ (by omega)
theorem numB_app : ∀ (a b : List UInt8) (n : Nat), numB n (a ++ b) = (numB n a).bind fun m => numB m b
  | [], b, n => rfl
  | x :: r, b, n => by
    simp only [List.cons_append, numB]
    split
    · rfl
    · exact numB_app r b _
theorem u8_dig {d : Nat} (h : d < 10) : (UInt8.ofNat (48 + d)).toNat = 48 + d := by
  simp only [UInt8.toNat_ofNat']
  exact Nat.mod_eq_of_lt (by omega)
theorem dig_u8 {x : UInt8} (h1 : 48 ≤ x.toNat) : UInt8.ofNat (48 + (x.toNat - 48)) = x := by
  rw [show 48 + (x.toNat - 48) = x.toNat by omega]
  simp
theorem numB_one {n d : Nat} (h : d < 10) : numB n [UInt8.ofNat (48 + d)] = some (n * 10 + d) := by
  unfold numB
  rw [u8_dig h, if_neg (by omega)]
  simp [numB]
theorem numB_dec : ∀ n, numB 0 (Lib.decDigits n) = some n := by
  intro n
  induction n using Nat.strongRecOn with
  | ind n ih =>
    rw [Lib.decDigits]
    by_cases h : n < 10
    · rw [dif_pos h, numB_one h]
      simp
    · rw [dif_neg h, numB_app, ih _ (by omega)]
      simp only [Option.bind_some]
      rw [numB_one (by omega)]
      congr 1
      omega
theorem dec_app {n d : Nat} (hn : 1 ≤ n) (hd : d < 10) : Lib.decDigits (n * 10 + d) = Lib.decDigits n ++ [UInt8.ofNat (48 + d)] := by
  rw [Lib.decDigits, dif_neg (by omega), show (n * 10 + d) / 10 = n by omega, show (n * 10 + d) % 10 = d by omega]
theorem dec_numB : ∀ (l : List UInt8) (n m : Nat), 1 ≤ n → numB n l = some m → Lib.decDigits m = Lib.decDigits n ++ l
  | [], n, m, hn, h => by
    simp only [numB, Option.some.injEq] at h
    simp [h]
  | x :: r, n, m, hn, h => by
    unfold numB at h
    split at h
    · cases h
    · rename_i hx
      rw [dec_numB r _ m (by omega) h, dec_app hn (by omega), dig_u8 (by omega)]
      simp
theorem dec_of_numB {t : List UInt8} {m : Nat} (h0 : t ≠ []) (hz : t.head? = some 48 → t.length ≤ 1) (h : numB 0 t = some m) : Lib.decDigits m = t := by
  cases t with
  | nil => exact absurd rfl h0
  | cons x r =>
    unfold numB at h
    split at h
    · cases h
    · rename_i hx
      have hxd := dig_u8 (x := x) (by omega)
      by_cases hx0 : x = 48
      · have := hz (by simp [hx0])
        have hr : r = [] := List.eq_nil_of_length_eq_zero (by simpa using this)
        subst hr
        simp only [numB, Option.some.injEq] at h
        rw [← h, Lib.decDigits, dif_pos (by omega)]
        simpa using hxd
      · have hx1 : x.toNat ≠ 48 := fun h => hx0 (UInt8.toNat_inj.1 h)
        rw [dec_numB r _ m (by omega) h]
        have : Lib.decDigits (0 * 10 + (x.toNat - 48)) = [x] := by
          rw [Lib.decDigits, dif_pos (by omega)]
          simpa using hxd
        rw [this]
        rfl
theorem snum_itoa {t : List UInt8} {n : Int} (h : snumB t = (n, true)) : Lib.itoa n = t ∧ n.natAbs < 10 ^ 17 := by
  have lt17 : ∀ (l : List UInt8) (k m : Nat), numB k l = some m → m < (k + 1) * 10 ^ l.length := by
    intro l
    induction l with
    | nil => intro k m h; simp only [numB, Option.some.injEq] at h; simp; omega
    | cons x r ih =>
      intro k m h
      unfold numB at h
      split at h
      · cases h
      · have := ih _ _ h
        refine Nat.lt_of_lt_of_le this ?_
        rw [List.length_cons, Nat.pow_succ, Nat.mul_comm (10 ^ r.length), ← Nat.mul_assoc]
        exact Nat.mul_le_mul_right _ (by omega)
  have key : ∀ (neg : Bool) (s : List UInt8), numT neg s = (n, true) → ∃ m, Lib.decDigits m = s ∧ n = (if neg = true then -(m : Int) else m) ∧ m < 10 ^ 17 ∧ (neg = true → 1 ≤ m) := by
    intro neg s hs
    unfold numT at hs
    split at hs
    · cases hs
    · rename_i hc
      simp only [not_or, not_and] at hc
      split at hs
      · cases hs
      · rename_i m hm
        injection hs with h1 _
        have hz : s.head? = some 48 → s.length ≤ 1 := fun hh => by have := (hc.2.2 hh).1; omega
        refine ⟨m, dec_of_numB (by intro h; simp [h] at hc) hz hm, h1.symm, ?_, fun hn => ?_⟩
        · have := lt17 s 0 m hm
          have h2 : (10 : Nat) ^ s.length ≤ 10 ^ 17 := Nat.pow_le_pow_right (by omega) (by omega)
          omega
        · cases s with
          | nil => simp at hc
          | cons x r =>
            have hx : x ≠ 48 := fun h => by have := (hc.2.2 (by simp [h])).2; exact this hn
            have hx1 : x.toNat ≠ 48 := fun h => hx (UInt8.toNat_inj.1 h)
            unfold numB at hm
            split at hm
            · cases hm
            · have := numB_le r _ m hm
              have : 1 * 1 ≤ (0 * 10 + (x.toNat - 48)) * 10 ^ r.length := Nat.mul_le_mul (by omega) (Nat.pow_pos (by omega))
              omega
  unfold snumB at h
  split at h
  · rename_i hh
    obtain ⟨m, h1, h2, h3, h4⟩ := key true _ h
    have h4 := h4 rfl
    simp only [if_true] at h2
    subst h2
    cases t with
    | nil => simp at hh
    | cons x r =>
      simp only [List.head?_cons, Option.some.injEq] at hh
      subst hh
      refine ⟨?_, by omega⟩
      unfold Lib.itoa
      rw [if_pos (by omega), show (-(m : Int)).natAbs = m by omega, h1]
      rfl
  · obtain ⟨m, h1, h2, h3, _⟩ := key false _ h
    simp only [Bool.false_eq_true, if_false] at h2
    subst h2
    refine ⟨?_, by omega⟩
    unfold Lib.itoa
    rw [if_neg (by omega)]
    simpa using h1
theorem dec_ne (n : Nat) : Lib.decDigits n ≠ [] := by
  rw [Lib.decDigits]
  split <;> simp
theorem dec_head (n : Nat) : ∃ x r, Lib.decDigits n = x :: r ∧ 48 ≤ x.toNat ∧ x.toNat ≤ 57 := by
  induction n using Nat.strongRecOn with
  | ind n ih =>
    rw [Lib.decDigits]
    by_cases h : n < 10
    · rw [dif_pos h]
      exact ⟨_, _, rfl, by rw [u8_dig h]; omega, by rw [u8_dig h]; omega⟩
    · rw [dif_neg h]
      obtain ⟨x, r, h1, h2, h3⟩ := ih (n / 10) (by omega)
      exact ⟨x, r ++ [UInt8.ofNat (48 + n % 10)], by rw [h1]; rfl, h2, h3⟩
theorem dec_zero (n : Nat) (h : (Lib.decDigits n).head? = some 48) : n = 0 := by
  induction n using Nat.strongRecOn with
  | ind n ih =>
    rw [Lib.decDigits] at h
    by_cases h9 : n < 10
    · rw [dif_pos h9] at h
      simp only [List.head?_cons, Option.some.injEq] at h
      have h2 := u8_dig h9
      rw [h] at h2
      simp at h2
      omega
    · rw [dif_neg h9] at h
      obtain ⟨x, r, h1, _, _⟩ := dec_head (n / 10)
      have := ih (n / 10) (by omega) (by rw [h1] at h ⊢; simpa using h)
      omega
theorem dec_len (n : Nat) : ∀ k, n < 10 ^ k → 1 ≤ k → (Lib.decDigits n).length ≤ k := by
  induction n using Nat.strongRecOn with
  | ind n ih =>
    intro k hk h1
    rw [Lib.decDigits]
    by_cases h : n < 10
    · rw [dif_pos h]
      simpa using h1
    · rw [dif_neg h]
      obtain ⟨j, rfl⟩ : ∃ j, k = j + 1 := ⟨k - 1, by omega⟩
      rw [Nat.pow_succ] at hk
      have hj : 1 ≤ j := by
        rcases Nat.eq_zero_or_pos j with h0 | h0
        · subst h0; simp at hk; omega
        · exact h0
      have := ih (n / 10) (by omega) j (by omega) hj
      simp
      omega
theorem snum_of {n : Int} (h : n.natAbs < 10 ^ 17) : snumB (Lib.itoa n) = (n, true) := by
  have key : ∀ (m : Nat) (neg : Bool), m < 10 ^ 17 → (neg = true → 1 ≤ m) → numT neg (Lib.decDigits m) = (if neg = true then -(m : Int) else m, true) := fun m neg hm hn => by
    unfold numT
    have h1 := dec_len m 17 hm (by omega)
    have h2 := List.length_pos_iff.2 (dec_ne m)
    rw [if_neg, numB_dec]
    rintro (h | h | ⟨h, h'⟩)
    · omega
    · omega
    · have h0 := dec_zero m h
      subst h0
      rcases h' with h' | h'
      · rw [Lib.decDigits] at h'
        simp at h'
      · have := hn h'
        omega
  unfold Lib.itoa snumB
  by_cases h0 : n < 0
  · rw [if_pos h0]
    simp only [List.head?_cons, if_true, List.tail_cons]
    rw [key _ true h (fun _ => by omega)]
    simp
    omega
  · rw [if_neg h0]
    obtain ⟨x, r, h1, h2, h3⟩ := dec_head n.toNat
    have hx : ¬ (Lib.decDigits n.toNat).head? = some 45 := by
      rw [h1]
      intro h
      simp only [List.head?_cons, Option.some.injEq] at h
      subst h
      simp at h2
    rw [if_neg hx, key _ false (by omega) (by simp)]
    simp
    omega
theorem parse_numB : ∀ (l : List UInt8) (acc m : Nat), numB acc l = some m → m < 18446744073709551616 → Lib.parseUint10 acc l = .ok m
  | [], acc, m, h, hm => by
    simp only [numB, Option.some.injEq] at h
    simp [Lib.parseUint10, h]
  | x :: r, acc, m, h, hm => by
    unfold numB at h
    split at h
    · cases h
    · rename_i hx
      have h1 := numB_le r _ m h
      have h2 : (acc * 10 + (x.toNat - 48)) * 1 ≤ (acc * 10 + (x.toNat - 48)) * 10 ^ r.length := Nat.mul_le_mul_left _ (Nat.pow_pos (by omega))
      have h3 := parse_numB r _ m h hm
      simp only [Lib.parseUint10]
      rw [if_pos (by omega), if_neg (by omega), if_neg (by omega), h3]
theorem atoi_itoa (n : Int) (h0 : -9223372036854775808 ≤ n) (h1 : n ≤ 9223372036854775807) : Lib.atoiAll (Lib.itoa n) = .ok n := by
  unfold Lib.itoa
  by_cases h : n < 0
  · rw [if_pos h]
    simp only [Lib.atoiAll, Lib.parseMag]
    have h45 : (45 : UInt8).toNat = 45 := rfl
    simp only [h45, or_true, if_true, dec_ne, if_false]
    rw [parse_numB _ _ _ (numB_dec _) (by omega)]
    simp
    rw [if_neg (by omega)]
    congr 1
    omega
  · rw [if_neg h]
    obtain ⟨x, r, e1, h2, h3⟩ := dec_head n.toNat
    have e2 := parse_numB _ _ _ (numB_dec n.toNat) (by omega)
    rw [e1] at e2 ⊢
    have n1 : ¬ (x.toNat = 43 ∨ x.toNat = 45) := by omega
    have n2 : ¬ x.toNat = 45 := by omega
    have n3 : ¬ x.toNat = 43 := by omega
    have n4 : ¬ 9223372036854775808 ≤ n.toNat := by omega
    simp [Lib.atoiAll, Lib.parseMag, n1, n2, n3, n4, e2]
    omega
def canB (t : List UInt8) : Bool := atoiK t && decide (Lib.itoa (atoiV t) = t)
theorem can_of {n : Int} (h0 : -9223372036854775808 ≤ n) (h1 : n ≤ 9223372036854775807) : canB (Lib.itoa n) = true ∧ atoiV (Lib.itoa n) = n := by
  have a := atoi_itoa n h0 h1
  unfold canB atoiK atoiV
  rw [a]
  simp
theorem can_snum (t : List UInt8) : (canB t = true ∧ (atoiV t).natAbs < 10 ^ 17) ↔ (snumB t).2 = true := by
  constructor
  · rintro ⟨h1, h2⟩
    simp only [canB, Bool.and_eq_true, decide_eq_true_eq] at h1
    have := snum_of h2
    rw [h1.2] at this
    rw [this]
  · intro h
    have h2 : snumB t = ((snumB t).1, true) := by rw [← h]
    obtain ⟨h3, h4⟩ := snum_itoa h2
    obtain ⟨h5, h6⟩ := can_of (n := (snumB t).1) (by omega) (by omega)
    rw [h3] at h5 h6
    exact ⟨h5, by rw [h6]; exact h4⟩
theorem can_val {t : List UInt8} (h : (snumB t).2 = true) : atoiV t = (snumB t).1 := by
  have h2 : snumB t = ((snumB t).1, true) := by rw [← h]
  obtain ⟨h3, h4⟩ := snum_itoa h2
  obtain ⟨_, h6⟩ := can_of (n := (snumB t).1) (by omega) (by omega)
  rw [h3] at h6
  exact h6
theorem iunhC (s : List UInt8) (hs : s.length ≤ 1048576) : CV prog 75 [.str s] (.tup [.str (unhB s []).1, .bool (unhB s []).2]) := by
  obtain ⟨R, hR⟩ : ∃ R, unhB s [] = R := ⟨_, rfl⟩
  rw [hR]
  have hml : maxLen = 9223372036854775807 := rfl
  have t1 : (s.length : Int).tmod 2 = (s.length : Int) % 2 := Int.tmod_eq_emod_of_nonneg (by omega)
  refine cvx func75 [(7, [⟨0, [], [], [], []⟩, ⟨1, [], [], [], []⟩, ⟨2, [], [], [], []⟩, ⟨4, [], [], [], []⟩, ⟨5, [], [], [], []⟩, ⟨6, [], [], [], []⟩, ⟨7, [], [], [], []⟩, ⟨3, [], [], [], []⟩, ⟨8, [], [], [], []⟩, ⟨9, [], [], [], []⟩, ⟨10, [], [], [], []⟩])] ntmps75 rfl rfl rfl ?_
  by_cases hodd : s.length % 2 = 0
  · have h1 : (s.length : Int) % 2 = 0 := by omega
    simp -implicitDefEqProofs [t1, h1]
    refine ev_sw (sw_ph 4 1 (by simp) (by simp)) ?_
    refine ev_lo (X := Nat × List UInt8) [0, 4, 5] [(4, 900)] (fun x => [(5, .int .i64 x.1), (4, .sl 900 0 x.2.length)]) (fun x => [(900, ⟨1, x.2.map u8row⟩)]) (fun x => s.length - x.1) (fun x => x.1 ≤ s.length ∧ x.1 % 2 = 0 ∧ x.2.length ≤ x.1 ∧ unhB (s.drop x.1) x.2 = R) (0, []) (by simp [hR]) ?_ (he := by simp [obOf])
    rintro ⟨i, out⟩ ⟨hi, hev, hol, hd⟩
    simp only at hi hev hol hd
    by_cases h2 : i < s.length
    · obtain ⟨a, f1⟩ : ∃ a, s[i]? = some a := ⟨_, List.getElem?_eq_getElem (by omega)⟩
      obtain ⟨b, f2⟩ : ∃ b, s[i + 1]? = some b := ⟨_, List.getElem?_eq_getElem (by omega)⟩
      rw [dropAt f1, dropAt f2, unhB] at hd
      have h3 : i + 1 < s.length := by omega
      have g1 : s[i] = a := (List.getElem?_eq_some_iff.1 f1).2
      have g2 : s[i + 1] = b := (List.getElem?_eq_some_iff.1 f2).2
      have c1 := idxByteC hexL a
      have c2 := idxByteC hexL b
      have b1 := hex16 a
      have b2 := hex16 b
      obtain ⟨p, hp⟩ : ∃ p, findB a hexL 0 = p := ⟨_, rfl⟩
      obtain ⟨q, hq⟩ : ∃ q, findB b hexL 0 = q := ⟨_, rfl⟩
      rw [hp] at c1 b1 hd
      rw [hq] at c2 b2 hd
      simp only [hexL] at c1 c2
      have e1 := i64w ((i : Int) + 1) (by omega) (by omega)
      have e2 := i64w ((i : Int) + 2) (by omega) (by omega)
      have e3 : ((i : Int) + 1).toNat = i + 1 := by omega
      simp -implicitDefEqProofs [h2, h3, f1, g1, f2, g2, e1, e3]
      refine ⟨by omega, ?_⟩
      refine c1.call ?_
      simp -implicitDefEqProofs [h2, h3, f1, g1, f2, g2, e1, e3]
      refine c2.call ?_
      by_cases hpn : p < 0
      · rw [if_pos (.inl hpn)] at hd
        simp -implicitDefEqProofs [hpn, ← hd]
      · by_cases hqn : q < 0
        · rw [if_pos (.inr hqn)] at hd
          simp -implicitDefEqProofs [hpn, hqn, ← hd]
        · rw [if_neg (by omega)] at hd
          have w1 := i64w (16 * p) (by omega) (by omega)
          have w2 := i64w (16 * p + q) (by omega) (by omega)
          have w3 : IntKind.u8.wrap (16 * p + q) = 16 * p + q := by
            show (16 * p + q) % 256 = _
            omega
          simp -implicitDefEqProofs [hpn, hqn, w1, w2, w3]
          refine ⟨by omega, ?_⟩
          have hu : u8row (UInt8.ofNat (p * 16 + q).toNat) = [.int .u8 (16 * p + q)] := by
            show [AV.int .u8 (((UInt8.ofNat (p * 16 + q).toNat).toNat : Nat) : Int)] = _
            simp only [UInt8.toNat_ofNat']
            have : (p * 16 + q).toNat % 2 ^ 8 = (p * 16 + q).toNat := Nat.mod_eq_of_lt (by omega)
            rw [this]
            have : (((p * 16 + q).toNat : Nat) : Int) = 16 * p + q := by omega
            rw [this]
          refine nx (i + 2, out ++ [UInt8.ofNat (p * 16 + q).toNat]) [(40, 900)] ⟨by simp only; omega, by simp only; omega, by simp; omega, hd⟩ (by simp only; omega) (h4 := ?_)
          simp [obOf, e2, hu, List.take_of_length_le, renL_u8c]
    · have : i = s.length := by omega
      subst this
      rw [List.drop_eq_nil_of_le (by omega), unhB] at hd
      simp -implicitDefEqProofs [byteOf_u8, List.take_of_length_le]
      exact ⟨fun _ _ => rfl, by rw [← hd], by rw [← hd]⟩
  · have h1 : (s.length : Int) % 2 = 1 := by omega
    have ho : ∀ (n : Nat) (l o : List UInt8), l.length = 2 * n + 1 → unhB l o = ([], false) := by
      intro n
      induction n with
      | zero =>
        intro l o hl
        match l, hl with
        | [x], _ => rfl
      | succ n ih =>
        intro l o hl
        match l, hl with
        | a :: b :: r, hl =>
          unfold unhB
          split
          · rfl
          · exact ih r _ (by simp at hl; omega)
    have := ho (s.length / 2) s [] (by omega)
    rw [this] at hR
    simp -implicitDefEqProofs [t1, h1, ← hR]
end Go.Av.F
end
section
namespace Go.Av.F
open Go Go.Av Go.Proofs Go.Proofs.Tryz
set_option linter.unusedSimpArgs false
set_option linter.unusedVariables false
set_option maxRecDepth 100000
theorem atoi_bnd {s : List UInt8} {v : Int} (h : Lib.atoiAll s = .ok v) : -9223372036854775808 ≤ v ∧ v ≤ 9223372036854775807 := by
  unfold Lib.atoiAll at h
  split at h
  · cases h
  · simp only at h
    split at h
    · cases h
    · cases h
    · split at h
      · cases h
      · split at h
        · cases h
        · rename_i h1 h2
          injection h with h
          split at h <;> rename_i h3
          · simp only [h3, true_and, Nat.not_lt] at h2
            omega
          · simp only [h3, not_false_eq_true, true_and, Nat.not_le] at h1
            omega
theorem atoiV_bnd (s : List UInt8) (h : atoiK s = true) : -9223372036854775808 ≤ atoiV s ∧ atoiV s ≤ 9223372036854775807 := by
  unfold atoiK at h
  unfold atoiV
  split at h
  · rename_i v hv
    rw [hv]
    exact atoi_bnd hv
  · cases h
def wordI (w name : List UInt8) : BO × Bool :=
  (⟨3, name, [], atoiV (cut1 61 w).1, (unhB (cut1 61 w).2.1 []).1⟩,
    (cut1 61 w).2.2 && canB (cut1 61 w).1 && (decide (0 ≤ atoiV (cut1 61 w).1) && decide (atoiV (cut1 61 w).1 ≤ 7)) && (unhB (cut1 61 w).2.1 []).2 && decide ((unhB (cut1 61 w).2.1 []).1.length ≤ 24))
theorem word_eq (w name : List UInt8) : (wordB w name).2 = (wordI w name).2 ∧ ((wordI w name).2 = true → wordB w name = wordI w name) := by
  have hge := findB_ge 61 w 0 (by omega)
  unfold wordB wordI cut1
  by_cases h0 : findB 61 w 0 < 0
  · rw [if_pos (by omega), if_pos h0]
    simp
  · rw [if_neg h0]
    by_cases h1 : findB 61 w 0 < 1
    · have : findB 61 w 0 = 0 := by omega
      have hc : canB [] = false := rfl
      rw [if_pos h1, this]
      simp [hc]
    · rw [if_neg h1]
      simp only
      have key := can_snum (w.take (findB 61 w 0).toNat)
      have val := can_val (t := w.take (findB 61 w 0).toNat)
      generalize w.take (findB 61 w 0).toNat = num at *
      generalize unhB (w.drop ((findB 61 w 0).toNat + 1)) [] = u at *
      obtain ⟨u1, u2⟩ := u
      simp only
      by_cases hs : (snumB num).2 = true
      · have hv := val hs
        have hk := (key.2 hs).1
        rw [hv, hs, hk]
        have e1 : decide ((snumB num).1 < 8) = decide ((snumB num).1 ≤ 7) := decide_eq_decide.2 (by omega)
        rw [e1]
        simp only [Bool.true_and]
        constructor
        · cases u2 <;> simp
        · intro h
          cases u2 <;> simp_all
      · have hs' : (snumB num).2 = false := by simpa using hs
        have hn : canB num = true → ¬ (0 ≤ atoiV num ∧ atoiV num ≤ 7) := fun hk hv => hs (key.1 ⟨hk, by omega⟩)
        rw [hs']
        cases hk : canB num with
        | false => simp
        | true =>
          have hn' := hn hk
          have : (decide (0 ≤ atoiV num) && decide (atoiV num ≤ 7)) = false := by
            rw [Bool.and_eq_false_iff, decide_eq_false_iff_not, decide_eq_false_iff_not]
            omega
          rw [this]
          simp
def befB (out : List BO) : Int := match out.getLast? with
  | some o => o.i
  | none => -1
theorem late_bef (out : List BO) (i : Int) (h : 0 ≤ i) : lateB out i = decide (i ≤ befB out) := by
  unfold lateB befB
  cases out.getLast? with
  | some o => rfl
  | none =>
    simp
    omega
def optR (x : Option (List BO)) : List BO × Bool := match x with
  | none => ([], false)
  | some l => (l, true)
def sendRes (x : List BO × Bool) (r : AV) (L' : List (Nat × Ob)) : Prop :=
  (x.2 = true ∧ r = .tup [.sl 900 0 x.1.length, .bool true] ∧ L' = [(900, opsOb x.1)]) ∨ (x = ([], false) ∧ r = .tup [.nils, .bool false] ∧ L' = [])
theorem ireadO (text name : List UInt8) (ht : text.length ≤ 1048576) : ACall prog 29 [.str text, .str name] [] (sendRes (sreadB text name)) := by
  obtain ⟨R, hR⟩ : ∃ R, sreadB text name = R := ⟨_, rfl⟩
  rw [hR]
  unfold sreadB at hR
  have ho := openB_len text
  have oc := iopenC text ht
  refine acx func29 [] ntmps29 rfl rfl rfl ?_
  simp -implicitDefEqProofs
  refine oc.call ?_
  generalize openB text = op at *
  obtain ⟨s, ok⟩ := op
  simp only at ho hR
  have cc := splitC s 32 (by omega)
  have hcp := cutR_pos 32 s []
  have hcl := cutR_len 32 s []
  have hcn := cutR_num 32 s []
  generalize cutR 32 s [] = ws at *
  simp only at oc
  cases ws with
  | nil => simp at hcp
  | cons f ws =>
    simp only [List.head?_cons, List.tail_cons, ne_eq, Option.some.injEq] at hR
    cases ok with
    | false =>
      rw [if_pos (.inl rfl)] at hR
      simp -implicitDefEqProofs
      refine cc.call ?_
      simp -implicitDefEqProofs [← hR, sendRes]
    | true =>
      simp -implicitDefEqProofs
      refine cc.call ?_
      by_cases hf : f = [115, 101, 110, 100]
      · rw [if_neg (by simp [hf])] at hR
        have hR' : optR (readL name ws []) = R := by
          rw [← hR]
          cases readL name ws [] <;> rfl
        simp -implicitDefEqProofs [strR, hf]
        refine ev_sw (sw_ph 9 5 (by simp) (by simp)) ?_
        refine ev_lo (X := Nat × List BO) [1, 9, 10, 36, 37, 38] [(9, 900)] (fun x => [(9, .sl 900 0 x.2.length), (10, .int .i64 (befB x.2)), (38, .int .i64 x.1)]) (fun x => [(900, opsOb x.2)]) (fun x => ws.length - x.1)
          (fun x => x.1 ≤ ws.length ∧ x.2.length ≤ x.1 ∧ optR (readL name (ws.drop x.1) x.2) = R) (0, []) ⟨by simp, by simp, by simpa using hR'⟩ ?_ (he := by simp [obOf, opsOb, befB])
        rintro ⟨i, out⟩ ⟨hi, hol, hd⟩
        simp only at hi hol hd
        simp only [List.length_cons] at hcn
        cases hr : ws.drop i with
        | nil =>
          have := dropn hr
          rw [hr, readL] at hd
          have hie : i = ws.length := by omega
          subst hie
          simp -implicitDefEqProofs [← hd, sendRes, optR]
        | cons w q =>
          obtain ⟨g1, g0, g2, g3⟩ := dropc hr
          rw [hr, readL] at hd
          have hwm := hcl w (List.mem_cons_of_mem _ (List.mem_of_getElem? g2))
          simp only [List.length_nil, Nat.zero_add] at hwm
          have g1' : (i : Int) < ws.length := by omega
          have e1 := i64w ((i : Int) + 1) (by omega) (by omega)
          have hcl1 := cut1_len 61 w
          obtain ⟨hq1, hq2⟩ := word_eq w name
          have c1 := cutC w 61 (by omega)
          have c2 := atoiC (cut1 61 w).1 (by omega)
          have c3 := iunhC (cut1 61 w).2.1 (by omega)
          have hvb := atoiV_bnd (cut1 61 w).1
          rw [hq1] at hd
          unfold wordI at hd hq2
          generalize cut1 61 w = k at *
          obtain ⟨k1, k2, k3⟩ := k
          simp only at c1 c2 c3 hvb hcl1 hd hq2
          generalize unhB k2 [] = u at *
          obtain ⟨u1, u2⟩ := u
          simp only at c3 hd hq2
          simp -implicitDefEqProofs [g1', g1, g0, g2, strR]
          refine c1.call ?_
          simp -implicitDefEqProofs
          refine c2.call ?_ 
          simp -implicitDefEqProofs
          refine c3.call ?_
          have bad : (k3 && canB k1 && (decide (0 ≤ atoiV k1) && decide (atoiV k1 ≤ 7)) && u2 && decide (u1.length ≤ 24)) = false → R = ([], false) := fun h => by
            rw [if_pos (.inl h)] at hd
            exact hd.symm
          cases k3 with
          | false =>
            have hRe := bad rfl
            simp -implicitDefEqProofs [hRe, sendRes]
          | true =>
            cases ha : atoiK k1 with
            | false =>
              have hRe := bad (by simp [canB, ha])
              simp -implicitDefEqProofs [hRe, sendRes, errA]
            | true =>
              have hv := hvb ha
              simp -implicitDefEqProofs [errA]
              refine (itoaC _ hv.1 hv.2).call ?_
              by_cases hit : Lib.itoa (atoiV k1) = k1
              · have hcan : canB k1 = true := by simp [canB, ha, hit]
                rw [hcan] at hd hq2 bad
                simp -implicitDefEqProofs [hit]
                refine (cv_of (isBlockC (atoiV k1))).call ?_
                cases hb : (decide (0 ≤ atoiV k1) && decide (atoiV k1 ≤ 7)) with
                | false =>
                  have hRe := bad (by rw [hb]; simp)
                  simp -implicitDefEqProofs [hRe, sendRes]
                | true =>
                  rw [hb] at hd hq2 bad
                  simp only [Bool.and_eq_true, decide_eq_true_eq] at hb
                  cases u2 with
                  | false =>
                    have hRe := bad rfl
                    simp -implicitDefEqProofs [hRe, sendRes]
                  | true =>
                    by_cases hlen : u1.length ≤ 24
                    · have hlen' : ¬ (24 : Int) < u1.length := by omega
                      have hq3 := hq2 (by simp [hlen])
                      rw [hq3, late_bef _ _ hb.1] at hd
                      by_cases hbf : atoiV k1 ≤ befB out
                      · rw [if_pos (.inr (by simpa using hbf))] at hd
                        have hRe : R = ([], false) := hd.symm
                        simp -implicitDefEqProofs [hlen', hbf, hRe, sendRes]
                      · rw [if_neg (by simp [hlen, hbf])] at hd
                        simp -implicitDefEqProofs [hlen', hbf, ops_sz, ops_els]
                        refine ⟨by omega, ?_⟩
                        refine nx (i + 1, out ++ [⟨3, name, [], atoiV k1, u1⟩]) [(96, 900)] ⟨by simp only; omega, by simp only [List.length_append, List.length_singleton]; omega, by simp only [g3]; exact hd⟩ (by simp only; omega) (h4 := ?_)
                        simp [obOf, e1, opsOb, BO.row, befB, List.take_of_length_le, renL_opc]
                    · have hlen' : (24 : Int) < u1.length := by omega
                      have hRe := bad (by simp [hlen])
                      simp -implicitDefEqProofs [hlen', hRe, sendRes]
              · have hRe := bad (by simp [canB, hit])
                simp -implicitDefEqProofs [hit, hRe, sendRes]
      · rw [if_pos (.inr hf)] at hR
        simp -implicitDefEqProofs [strR, hf, ← hR, sendRes]
theorem iread9 (text name : List UInt8) (ht : text.length ≤ 1048576) : ACall prog 29 [.str text, .str name] [] (fun r L' => r = .tup [.sl 900 0 (sreadB text name).1.length, .bool (sreadB text name).2] ∧ L' = [(900, opsOb (sreadB text name).1)]) := by
  refine ACall.ph 900 5 (ireadO text name ht) (by simp) ?_
  rintro r L' (⟨h1, rfl, rfl⟩ | ⟨h1, rfl, rfl⟩)
  · exact .inl ⟨by rw [h1], rfl⟩
  · exact .inr ⟨by simp [clA], by simp, _, phs_tup2 (phs_nil 900 5) (phs_refl _ _ _), by rw [h1]; exact ⟨rfl, rfl⟩⟩
theorem ireadC (text name : List UInt8) (ht : text.length ≤ 1048576) : CV prog 29 [.str text, .str name] (.tup [.lst 5 ((sreadB text name).1.map BO.row), .bool (sreadB text name).2]) := by
  refine CV.of_frz (iread9 text name ht) (fun r L' hR => ?_) (hcv := by simp [clA])
  obtain ⟨rfl, rfl⟩ := hR
  refine ⟨by simp, by simp, by simp [opsOb, clR, BO.row, clL, clA], ?_⟩
  simp [frzAll, opsOb, List.take_of_length_le]
  exact impA_refl _
theorem readL_len (name : List UInt8) : ∀ (ws : List (List UInt8)) (out l : List BO), readL name ws out = some l → l.length ≤ out.length + ws.length
  | [], out, l, h => by
    simp only [readL, Option.some.injEq] at h
    simp [h]
  | w :: r, out, l, h => by
    unfold readL at h
    split at h
    · cases h
    · have := readL_len name r _ l h
      simp at this ⊢
      omega
theorem sread_len (text name : List UInt8) : (sreadB text name).1.length ≤ text.length + 1 := by
  have h1 := openB_len text
  have h2 := cutR_num 32 (openB text).1 []
  unfold sreadB
  split
  · simp
  · split
    · simp
    · rename_i l hl
      have := readL_len _ _ _ _ hl
      simp at this ⊢
      omega
@[simp] theorem renOb_ops (ρ : Nat → Option Plc) (l : List BO) : renOb ρ (opsOb l) = opsOb l := renOb_cl (clR_ops l)
end Go.Av.F
end
