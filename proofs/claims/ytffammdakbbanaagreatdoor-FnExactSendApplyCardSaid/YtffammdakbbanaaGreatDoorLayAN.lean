/- Lemmas for the proof, no statement of the seat; no conditions. -/
import Derived.Test.YtffammdakbbanaaGreatDoorLayAM
import Derived.Lib.LaidTab
import Derived.FnData
import Derived.Test.YtffammdakbbanaaGreatDoorRows
import Derived.Test.YtffammdakbbanaaGreatDoorCards
import Derived.ProofKit
import Derived.OpenShut
import Derived.LaidMore
import Derived.Lay
import Derived.SevenTiedAt
import Derived.Stop.Joined
section
namespace Go.Av.F
open Go Go.Av Go.Proofs Go.Proofs.Tryz
set_option linter.unusedSimpArgs false
set_option linter.unusedVariables false
set_option maxRecDepth 100000
theorem numB_le : ∀ (l : List UInt8) (n m : Nat), numB n l = some m → n * 10 ^ l.length ≤ m
  | [], n, m, h => by
    simp only [numB, Option.some.injEq] at h
    simp [h]
  | x :: r, n, m, h => by
    unfold numB at h
    split at h
    · cases h
    · have := numB_le r _ m h
      refine Nat.le_trans ?_ this
      rw [List.length_cons, Nat.pow_succ, Nat.mul_comm (10 ^ r.length), ← Nat.mul_assoc]
      exact Nat.mul_le_mul_right _ (by omega)
theorem numB_app : ∀ (a b : List UInt8) (n : Nat), numB n (a ++ b) = (numB n a).bind fun m => numB m b
  | [], b, n => rfl
  | x :: r, b, n => by
    simp only [List.cons_append, numB]
    split
    · rfl
    · exact numB_app r b _
theorem u8_dig {d : Nat} (h : d < 10) : (UInt8.ofNat (48 + d)).toNat = 48 + d := by
  simp only [UInt8.toNat_ofNat']
  exact Nat.mod_eq_of_lt (by omega)
theorem dig_u8 {x : UInt8} (h1 : 48 ≤ x.toNat) : UInt8.ofNat (48 + (x.toNat - 48)) = x := by
  rw [show 48 + (x.toNat - 48) = x.toNat by omega]
  simp
theorem numB_one {n d : Nat} (h : d < 10) : numB n [UInt8.ofNat (48 + d)] = some (n * 10 + d) := by
  unfold numB
  rw [u8_dig h, if_neg (by omega)]
  simp [numB]
theorem numB_dec : ∀ n, numB 0 (Lib.decDigits n) = some n := by
  intro n
  induction n using Nat.strongRecOn with
  | ind n ih =>
    rw [Lib.decDigits]
    by_cases h : n < 10
    · rw [dif_pos h, numB_one h]
      simp
    · rw [dif_neg h, numB_app, ih _ (by omega)]
      simp only [Option.bind_some]
      rw [numB_one (by omega)]
      congr 1
      omega
theorem dec_app {n d : Nat} (hn : 1 ≤ n) (hd : d < 10) : Lib.decDigits (n * 10 + d) = Lib.decDigits n ++ [UInt8.ofNat (48 + d)] := by
  rw [Lib.decDigits, dif_neg (by omega), show (n * 10 + d) / 10 = n by omega, show (n * 10 + d) % 10 = d by omega]
theorem dec_numB : ∀ (l : List UInt8) (n m : Nat), 1 ≤ n → numB n l = some m → Lib.decDigits m = Lib.decDigits n ++ l
  | [], n, m, hn, h => by
    simp only [numB, Option.some.injEq] at h
    simp [h]
  | x :: r, n, m, hn, h => by
    unfold numB at h
    split at h
    · cases h
    · rename_i hx
      rw [dec_numB r _ m (by omega) h, dec_app hn (by omega), dig_u8 (by omega)]
      simp
theorem dec_of_numB {t : List UInt8} {m : Nat} (h0 : t ≠ []) (hz : t.head? = some 48 → t.length ≤ 1) (h : numB 0 t = some m) : Lib.decDigits m = t := by
  cases t with
  | nil => exact absurd rfl h0
  | cons x r =>
    unfold numB at h
    split at h
    · cases h
    · rename_i hx
      have hxd := dig_u8 (x := x) (by omega)
      by_cases hx0 : x = 48
      · have := hz (by simp [hx0])
        have hr : r = [] := List.eq_nil_of_length_eq_zero (by simpa using this)
        subst hr
        simp only [numB, Option.some.injEq] at h
        rw [← h, Lib.decDigits, dif_pos (by omega)]
        simpa using hxd
      · have hx1 : x.toNat ≠ 48 := fun h => hx0 (UInt8.toNat_inj.1 h)
        rw [dec_numB r _ m (by omega) h]
        have : Lib.decDigits (0 * 10 + (x.toNat - 48)) = [x] := by
          rw [Lib.decDigits, dif_pos (by omega)]
          simpa using hxd
        rw [this]
        rfl
theorem snum_itoa {t : List UInt8} {n : Int} (h : snumB t = (n, true)) : Lib.itoa n = t ∧ n.natAbs < 10 ^ 17 := by
  have lt17 : ∀ (l : List UInt8) (k m : Nat), numB k l = some m → m < (k + 1) * 10 ^ l.length := by
    intro l
    induction l with
    | nil => intro k m h; simp only [numB, Option.some.injEq] at h; simp; omega
    | cons x r ih =>
      intro k m h
      unfold numB at h
      split at h
      · cases h
      · have := ih _ _ h
        refine Nat.lt_of_lt_of_le this ?_
        rw [List.length_cons, Nat.pow_succ, Nat.mul_comm (10 ^ r.length), ← Nat.mul_assoc]
        exact Nat.mul_le_mul_right _ (by omega)
  have key : ∀ (neg : Bool) (s : List UInt8), numT neg s = (n, true) → ∃ m, Lib.decDigits m = s ∧ n = (if neg = true then -(m : Int) else m) ∧ m < 10 ^ 17 ∧ (neg = true → 1 ≤ m) := by
    intro neg s hs
    unfold numT at hs
    split at hs
    · cases hs
    · rename_i hc
      simp only [not_or, not_and] at hc
      split at hs
      · cases hs
      · rename_i m hm
        injection hs with h1 _
        have hz : s.head? = some 48 → s.length ≤ 1 := fun hh => by have := (hc.2.2 hh).1; omega
        refine ⟨m, dec_of_numB (by intro h; simp [h] at hc) hz hm, h1.symm, ?_, fun hn => ?_⟩
        · have := lt17 s 0 m hm
          have h2 : (10 : Nat) ^ s.length ≤ 10 ^ 17 := Nat.pow_le_pow_right (by omega) (by omega)
          omega
        · cases s with
          | nil => simp at hc
          | cons x r =>
            have hx : x ≠ 48 := fun h => by have := (hc.2.2 (by simp [h])).2; exact this hn
            have hx1 : x.toNat ≠ 48 := fun h => hx (UInt8.toNat_inj.1 h)
            unfold numB at hm
            split at hm
            · cases hm
            · have := numB_le r _ m hm
              have : 1 * 1 ≤ (0 * 10 + (x.toNat - 48)) * 10 ^ r.length := Nat.mul_le_mul (by omega) (Nat.pow_pos (by omega))
              omega
  unfold snumB at h
  split at h
  · rename_i hh
    obtain ⟨m, h1, h2, h3, h4⟩ := key true _ h
    have h4 := h4 rfl
    simp only [if_true] at h2
    subst h2
    cases t with
    | nil => simp at hh
    | cons x r =>
      simp only [List.head?_cons, Option.some.injEq] at hh
      subst hh
      refine ⟨?_, by omega⟩
      unfold Lib.itoa
      rw [if_pos (by omega), show (-(m : Int)).natAbs = m by omega, h1]
      rfl
  · obtain ⟨m, h1, h2, h3, _⟩ := key false _ h
    simp only [Bool.false_eq_true, if_false] at h2
    subst h2
    refine ⟨?_, by omega⟩
    unfold Lib.itoa
    rw [if_neg (by omega)]
    simpa using h1
theorem dec_ne (n : Nat) : Lib.decDigits n ≠ [] := by
  rw [Lib.decDigits]
  split <;> simp
theorem dec_head (n : Nat) : ∃ x r, Lib.decDigits n = x :: r ∧ 48 ≤ x.toNat ∧ x.toNat ≤ 57 := by
  induction n using Nat.strongRecOn with
  | ind n ih =>
    rw [Lib.decDigits]
    by_cases h : n < 10
    · rw [dif_pos h]
      exact ⟨_, _, rfl, by rw [u8_dig h]; omega, by rw [u8_dig h]; omega⟩
    · rw [dif_neg h]
      obtain ⟨x, r, h1, h2, h3⟩ := ih (n / 10) (by omega)
      exact ⟨x, r ++ [UInt8.ofNat (48 + n % 10)], by rw [h1]; rfl, h2, h3⟩
theorem dec_zero (n : Nat) (h : (Lib.decDigits n).head? = some 48) : n = 0 := by
  induction n using Nat.strongRecOn with
  | ind n ih =>
    rw [Lib.decDigits] at h
    by_cases h9 : n < 10
    · rw [dif_pos h9] at h
      simp only [List.head?_cons, Option.some.injEq] at h
      have h2 := u8_dig h9
      rw [h] at h2
      simp at h2
      omega
    · rw [dif_neg h9] at h
      obtain ⟨x, r, h1, _, _⟩ := dec_head (n / 10)
      have := ih (n / 10) (by omega) (by rw [h1] at h ⊢; simpa using h)
      omega
theorem dec_len (n : Nat) : ∀ k, n < 10 ^ k → 1 ≤ k → (Lib.decDigits n).length ≤ k := by
  induction n using Nat.strongRecOn with
  | ind n ih =>
    intro k hk h1
    rw [Lib.decDigits]
    by_cases h : n < 10
    · rw [dif_pos h]
      simpa using h1
    · rw [dif_neg h]
      obtain ⟨j, rfl⟩ : ∃ j, k = j + 1 := ⟨k - 1, by omega⟩
      rw [Nat.pow_succ] at hk
      have hj : 1 ≤ j := by
        rcases Nat.eq_zero_or_pos j with h0 | h0
        · subst h0; simp at hk; omega
        · exact h0
      have := ih (n / 10) (by omega) j (by omega) hj
      simp
      omega
theorem snum_of {n : Int} (h : n.natAbs < 10 ^ 17) : snumB (Lib.itoa n) = (n, true) := by
  have key : ∀ (m : Nat) (neg : Bool), m < 10 ^ 17 → (neg = true → 1 ≤ m) → numT neg (Lib.decDigits m) = (if neg = true then -(m : Int) else m, true) := fun m neg hm hn => by
    unfold numT
    have h1 := dec_len m 17 hm (by omega)
    have h2 := List.length_pos_iff.2 (dec_ne m)
    rw [if_neg, numB_dec]
    rintro (h | h | ⟨h, h'⟩)
    · omega
    · omega
    · have h0 := dec_zero m h
      subst h0
      rcases h' with h' | h'
      · rw [Lib.decDigits] at h'
        simp at h'
      · have := hn h'
        omega
  unfold Lib.itoa snumB
  by_cases h0 : n < 0
  · rw [if_pos h0]
    simp only [List.head?_cons, if_true, List.tail_cons]
    rw [key _ true h (fun _ => by omega)]
    simp
    omega
  · rw [if_neg h0]
    obtain ⟨x, r, h1, h2, h3⟩ := dec_head n.toNat
    have hx : ¬ (Lib.decDigits n.toNat).head? = some 45 := by
      rw [h1]
      intro h
      simp only [List.head?_cons, Option.some.injEq] at h
      subst h
      simp at h2
    rw [if_neg hx, key _ false (by omega) (by simp)]
    simp
    omega
theorem parse_numB : ∀ (l : List UInt8) (acc m : Nat), numB acc l = some m → m < 18446744073709551616 → Lib.parseUint10 acc l = .ok m
  | [], acc, m, h, hm => by
    simp only [numB, Option.some.injEq] at h
    simp [Lib.parseUint10, h]
  | x :: r, acc, m, h, hm => by
    unfold numB at h
    split at h
    · cases h
    · rename_i hx
      have h1 := numB_le r _ m h
      have h2 : (acc * 10 + (x.toNat - 48)) * 1 ≤ (acc * 10 + (x.toNat - 48)) * 10 ^ r.length := Nat.mul_le_mul_left _ (Nat.pow_pos (by omega))
      have h3 := parse_numB r _ m h hm
      simp only [Lib.parseUint10]
      rw [if_pos (by omega), if_neg (by omega), if_neg (by omega), h3]
theorem atoi_itoa (n : Int) (h0 : -9223372036854775808 ≤ n) (h1 : n ≤ 9223372036854775807) : Lib.atoiAll (Lib.itoa n) = .ok n := by
  unfold Lib.itoa
  by_cases h : n < 0
  · rw [if_pos h]
    simp only [Lib.atoiAll, Lib.parseMag]
    have h45 : (45 : UInt8).toNat = 45 := rfl
    simp only [h45, or_true, if_true, dec_ne, if_false]
    rw [parse_numB _ _ _ (numB_dec _) (by omega)]
    simp
    rw [if_neg (by omega)]
    congr 1
    omega
  · rw [if_neg h]
    obtain ⟨x, r, e1, h2, h3⟩ := dec_head n.toNat
    have e2 := parse_numB _ _ _ (numB_dec n.toNat) (by omega)
    rw [e1] at e2 ⊢
    have n1 : ¬ (x.toNat = 43 ∨ x.toNat = 45) := by omega
    have n2 : ¬ x.toNat = 45 := by omega
    have n3 : ¬ x.toNat = 43 := by omega
    have n4 : ¬ 9223372036854775808 ≤ n.toNat := by omega
    simp [Lib.atoiAll, Lib.parseMag, n1, n2, n3, n4, e2]
    omega
def canB (t : List UInt8) : Bool := atoiK t && decide (Lib.itoa (atoiV t) = t)
theorem can_of {n : Int} (h0 : -9223372036854775808 ≤ n) (h1 : n ≤ 9223372036854775807) : canB (Lib.itoa n) = true ∧ atoiV (Lib.itoa n) = n := by
  have a := atoi_itoa n h0 h1
  unfold canB atoiK atoiV
  rw [a]
  simp
theorem can_snum (t : List UInt8) : (canB t = true ∧ (atoiV t).natAbs < 10 ^ 17) ↔ (snumB t).2 = true := by
  constructor
  · rintro ⟨h1, h2⟩
    simp only [canB, Bool.and_eq_true, decide_eq_true_eq] at h1
    have := snum_of h2
    rw [h1.2] at this
    rw [this]
  · intro h
    have h2 : snumB t = ((snumB t).1, true) := by rw [← h]
    obtain ⟨h3, h4⟩ := snum_itoa h2
    obtain ⟨h5, h6⟩ := can_of (n := (snumB t).1) (by omega) (by omega)
    rw [h3] at h5 h6
    exact ⟨h5, by rw [h6]; exact h4⟩
theorem can_val {t : List UInt8} (h : (snumB t).2 = true) : atoiV t = (snumB t).1 := by
  have h2 : snumB t = ((snumB t).1, true) := by rw [← h]
  obtain ⟨h3, h4⟩ := snum_itoa h2
  obtain ⟨_, h6⟩ := can_of (n := (snumB t).1) (by omega) (by omega)
  rw [h3] at h6
  exact h6
theorem iunhC (s : List UInt8) (hs : s.length ≤ 1048576) : CV prog 75 [.str s] (.tup [.str (unhB s []).1, .bool (unhB s []).2]) := by
  obtain ⟨R, hR⟩ : ∃ R, unhB s [] = R := ⟨_, rfl⟩
  rw [hR]
  have hml : maxLen = 9223372036854775807 := rfl
  have t1 : (s.length : Int).tmod 2 = (s.length : Int) % 2 := Int.tmod_eq_emod_of_nonneg (by omega)
  refine cvx func75 [(7, [⟨0, [], [], [], []⟩, ⟨1, [], [], [], []⟩, ⟨2, [], [], [], []⟩, ⟨4, [], [], [], []⟩, ⟨5, [], [], [], []⟩, ⟨6, [], [], [], []⟩, ⟨7, [], [], [], []⟩, ⟨3, [], [], [], []⟩, ⟨8, [], [], [], []⟩, ⟨9, [], [], [], []⟩, ⟨10, [], [], [], []⟩])] ntmps75 rfl rfl rfl ?_
  by_cases hodd : s.length % 2 = 0
  · have h1 : (s.length : Int) % 2 = 0 := by omega
    simp -implicitDefEqProofs [t1, h1]
    refine ev_sw (sw_ph 4 1 (by simp) (by simp)) ?_
    refine ev_lo (X := Nat × List UInt8) [0, 4, 5] [(4, 900)] (fun x => [(5, .int .i64 x.1), (4, .sl 900 0 x.2.length)]) (fun x => [(900, ⟨1, x.2.map u8row⟩)]) (fun x => s.length - x.1) (fun x => x.1 ≤ s.length ∧ x.1 % 2 = 0 ∧ x.2.length ≤ x.1 ∧ unhB (s.drop x.1) x.2 = R) (0, []) (by simp [hR]) ?_ (he := by simp [obOf])
    rintro ⟨i, out⟩ ⟨hi, hev, hol, hd⟩
    simp only at hi hev hol hd
    by_cases h2 : i < s.length
    · obtain ⟨a, f1⟩ : ∃ a, s[i]? = some a := ⟨_, List.getElem?_eq_getElem (by omega)⟩
      obtain ⟨b, f2⟩ : ∃ b, s[i + 1]? = some b := ⟨_, List.getElem?_eq_getElem (by omega)⟩
      rw [dropAt f1, dropAt f2, unhB] at hd
      have h3 : i + 1 < s.length := by omega
      have g1 : s[i] = a := (List.getElem?_eq_some_iff.1 f1).2
      have g2 : s[i + 1] = b := (List.getElem?_eq_some_iff.1 f2).2
      have c1 := idxByteC hexL a
      have c2 := idxByteC hexL b
      have b1 := hex16 a
      have b2 := hex16 b
      obtain ⟨p, hp⟩ : ∃ p, findB a hexL 0 = p := ⟨_, rfl⟩
      obtain ⟨q, hq⟩ : ∃ q, findB b hexL 0 = q := ⟨_, rfl⟩
      rw [hp] at c1 b1 hd
      rw [hq] at c2 b2 hd
      simp only [hexL] at c1 c2
      have e1 := i64w ((i : Int) + 1) (by omega) (by omega)
      have e2 := i64w ((i : Int) + 2) (by omega) (by omega)
      have e3 : ((i : Int) + 1).toNat = i + 1 := by omega
      simp -implicitDefEqProofs [h2, h3, f1, g1, f2, g2, e1, e3]
      refine ⟨by omega, ?_⟩
      refine c1.call ?_
      simp -implicitDefEqProofs [h2, h3, f1, g1, f2, g2, e1, e3]
      refine c2.call ?_
      by_cases hpn : p < 0
      · rw [if_pos (.inl hpn)] at hd
        simp -implicitDefEqProofs [hpn, ← hd]
      · by_cases hqn : q < 0
        · rw [if_pos (.inr hqn)] at hd
          simp -implicitDefEqProofs [hpn, hqn, ← hd]
        · rw [if_neg (by omega)] at hd
          have w1 := i64w (16 * p) (by omega) (by omega)
          have w2 := i64w (16 * p + q) (by omega) (by omega)
          have w3 : IntKind.u8.wrap (16 * p + q) = 16 * p + q := by
            show (16 * p + q) % 256 = _
            omega
          simp -implicitDefEqProofs [hpn, hqn, w1, w2, w3]
          refine ⟨by omega, ?_⟩
          have hu : u8row (UInt8.ofNat (p * 16 + q).toNat) = [.int .u8 (16 * p + q)] := by
            show [AV.int .u8 (((UInt8.ofNat (p * 16 + q).toNat).toNat : Nat) : Int)] = _
            simp only [UInt8.toNat_ofNat']
            have : (p * 16 + q).toNat % 2 ^ 8 = (p * 16 + q).toNat := Nat.mod_eq_of_lt (by omega)
            rw [this]
            have : (((p * 16 + q).toNat : Nat) : Int) = 16 * p + q := by omega
            rw [this]
          refine nx (i + 2, out ++ [UInt8.ofNat (p * 16 + q).toNat]) [(40, 900)] ⟨by simp only; omega, by simp only; omega, by simp; omega, hd⟩ (by simp only; omega) (h4 := ?_)
          simp [obOf, e2, hu, List.take_of_length_le, renL_u8c]
    · have : i = s.length := by omega
      subst this
      rw [List.drop_eq_nil_of_le (by omega), unhB] at hd
      simp -implicitDefEqProofs [byteOf_u8, List.take_of_length_le]
      exact ⟨fun _ _ => rfl, by rw [← hd], by rw [← hd]⟩
  · have h1 : (s.length : Int) % 2 = 1 := by omega
    have ho : ∀ (n : Nat) (l o : List UInt8), l.length = 2 * n + 1 → unhB l o = ([], false) := by
      intro n
      induction n with
      | zero =>
        intro l o hl
        match l, hl with
        | [x], _ => rfl
      | succ n ih =>
        intro l o hl
        match l, hl with
        | a :: b :: r, hl =>
          unfold unhB
          split
          · rfl
          · exact ih r _ (by simp at hl; omega)
    have := ho (s.length / 2) s [] (by omega)
    rw [this] at hR
    simp -implicitDefEqProofs [t1, h1, ← hR]
end Go.Av.F
end
section
namespace Go.Av.F
open Go Go.Av Go.Proofs Go.Proofs.Tryz
set_option linter.unusedSimpArgs false
set_option linter.unusedVariables false
set_option maxRecDepth 100000
theorem atoi_bnd {s : List UInt8} {v : Int} (h : Lib.atoiAll s = .ok v) : -9223372036854775808 ≤ v ∧ v ≤ 9223372036854775807 := by
  unfold Lib.atoiAll at h
  split at h
  · cases h
  · simp only at h
    split at h
    · cases h
    · cases h
    · split at h
      · cases h
      · split at h
        · cases h
        · rename_i h1 h2
          injection h with h
          split at h <;> rename_i h3
          · simp only [h3, true_and, Nat.not_lt] at h2
            omega
          · simp only [h3, not_false_eq_true, true_and, Nat.not_le] at h1
            omega
theorem atoiV_bnd (s : List UInt8) (h : atoiK s = true) : -9223372036854775808 ≤ atoiV s ∧ atoiV s ≤ 9223372036854775807 := by
  unfold atoiK at h
  unfold atoiV
  split at h
  · rename_i v hv
    rw [hv]
    exact atoi_bnd hv
  · cases h
def wordI (w name : List UInt8) : BO × Bool :=
  (⟨3, name, [], atoiV (cut1 61 w).1, (unhB (cut1 61 w).2.1 []).1⟩,
    (cut1 61 w).2.2 && canB (cut1 61 w).1 && (decide (0 ≤ atoiV (cut1 61 w).1) && decide (atoiV (cut1 61 w).1 ≤ 7)) && (unhB (cut1 61 w).2.1 []).2 && decide ((unhB (cut1 61 w).2.1 []).1.length ≤ 24))
theorem word_eq (w name : List UInt8) : (wordB w name).2 = (wordI w name).2 ∧ ((wordI w name).2 = true → wordB w name = wordI w name) := by
  have hge := findB_ge 61 w 0 (by omega)
  unfold wordB wordI cut1
  by_cases h0 : findB 61 w 0 < 0
  · rw [if_pos (by omega), if_pos h0]
    simp
  · rw [if_neg h0]
    by_cases h1 : findB 61 w 0 < 1
    · have : findB 61 w 0 = 0 := by omega
      have hc : canB [] = false := rfl
      rw [if_pos h1, this]
      simp [hc]
    · rw [if_neg h1]
      simp only
      have key := can_snum (w.take (findB 61 w 0).toNat)
      have val := can_val (t := w.take (findB 61 w 0).toNat)
      generalize w.take (findB 61 w 0).toNat = num at *
      generalize unhB (w.drop ((findB 61 w 0).toNat + 1)) [] = u at *
      obtain ⟨u1, u2⟩ := u
      simp only
      by_cases hs : (snumB num).2 = true
      · have hv := val hs
        have hk := (key.2 hs).1
        rw [hv, hs, hk]
        have e1 : decide ((snumB num).1 < 8) = decide ((snumB num).1 ≤ 7) := decide_eq_decide.2 (by omega)
        rw [e1]
        simp only [Bool.true_and]
        constructor
        · cases u2 <;> simp
        · intro h
          cases u2 <;> simp_all
      · have hs' : (snumB num).2 = false := by simpa using hs
        have hn : canB num = true → ¬ (0 ≤ atoiV num ∧ atoiV num ≤ 7) := fun hk hv => hs (key.1 ⟨hk, by omega⟩)
        rw [hs']
        cases hk : canB num with
        | false => simp
        | true =>
          have hn' := hn hk
          have : (decide (0 ≤ atoiV num) && decide (atoiV num ≤ 7)) = false := by
            rw [Bool.and_eq_false_iff, decide_eq_false_iff_not, decide_eq_false_iff_not]
            omega
          rw [this]
          simp
def befB (out : List BO) : Int := match out.getLast? with
  | some o => o.i
  | none => -1
theorem late_bef (out : List BO) (i : Int) (h : 0 ≤ i) : lateB out i = decide (i ≤ befB out) := by
  unfold lateB befB
  cases out.getLast? with
  | some o => rfl
  | none =>
    simp
    omega
def optR (x : Option (List BO)) : List BO × Bool := match x with
  | none => ([], false)
  | some l => (l, true)
def sendRes (x : List BO × Bool) (r : AV) (L' : List (Nat × Ob)) : Prop :=
  (x.2 = true ∧ r = .tup [.sl 900 0 x.1.length, .bool true] ∧ L' = [(900, opsOb x.1)]) ∨ (x = ([], false) ∧ r = .tup [.nils, .bool false] ∧ L' = [])
theorem ireadO (text name : List UInt8) (ht : text.length ≤ 1048576) : ACall prog 29 [.str text, .str name] [] (sendRes (sreadB text name)) := by
  obtain ⟨R, hR⟩ : ∃ R, sreadB text name = R := ⟨_, rfl⟩
  rw [hR]
  unfold sreadB at hR
  have ho := openB_len text
  have oc := iopenC text ht
  refine acx func29 [] ntmps29 rfl rfl rfl ?_
  simp -implicitDefEqProofs
  refine oc.call ?_
  generalize openB text = op at *
  obtain ⟨s, ok⟩ := op
  simp only at ho hR
  have cc := splitC s 32 (by omega)
  have hcp := cutR_pos 32 s []
  have hcl := cutR_len 32 s []
  have hcn := cutR_num 32 s []
  generalize cutR 32 s [] = ws at *
  simp only at oc
  cases ws with
  | nil => simp at hcp
  | cons f ws =>
    simp only [List.head?_cons, List.tail_cons, ne_eq, Option.some.injEq] at hR
    cases ok with
    | false =>
      rw [if_pos (.inl rfl)] at hR
      simp -implicitDefEqProofs
      refine cc.call ?_
      simp -implicitDefEqProofs [← hR, sendRes]
    | true =>
      simp -implicitDefEqProofs
      refine cc.call ?_
      by_cases hf : f = [115, 101, 110, 100]
      · rw [if_neg (by simp [hf])] at hR
        have hR' : optR (readL name ws []) = R := by
          rw [← hR]
          cases readL name ws [] <;> rfl
        simp -implicitDefEqProofs [strR, hf]
        refine ev_sw (sw_ph 9 5 (by simp) (by simp)) ?_
        refine ev_lo (X := Nat × List BO) [1, 9, 10, 36, 37, 38] [(9, 900)] (fun x => [(9, .sl 900 0 x.2.length), (10, .int .i64 (befB x.2)), (38, .int .i64 x.1)]) (fun x => [(900, opsOb x.2)]) (fun x => ws.length - x.1)
          (fun x => x.1 ≤ ws.length ∧ x.2.length ≤ x.1 ∧ optR (readL name (ws.drop x.1) x.2) = R) (0, []) ⟨by simp, by simp, by simpa using hR'⟩ ?_ (he := by simp [obOf, opsOb, befB])
        rintro ⟨i, out⟩ ⟨hi, hol, hd⟩
        simp only at hi hol hd
        simp only [List.length_cons] at hcn
        cases hr : ws.drop i with
        | nil =>
          have := dropn hr
          rw [hr, readL] at hd
          have hie : i = ws.length := by omega
          subst hie
          simp -implicitDefEqProofs [← hd, sendRes, optR]
        | cons w q =>
          obtain ⟨g1, g0, g2, g3⟩ := dropc hr
          rw [hr, readL] at hd
          have hwm := hcl w (List.mem_cons_of_mem _ (List.mem_of_getElem? g2))
          simp only [List.length_nil, Nat.zero_add] at hwm
          have g1' : (i : Int) < ws.length := by omega
          have e1 := i64w ((i : Int) + 1) (by omega) (by omega)
          have hcl1 := cut1_len 61 w
          obtain ⟨hq1, hq2⟩ := word_eq w name
          have c1 := cutC w 61 (by omega)
          have c2 := atoiC (cut1 61 w).1 (by omega)
          have c3 := iunhC (cut1 61 w).2.1 (by omega)
          have hvb := atoiV_bnd (cut1 61 w).1
          rw [hq1] at hd
          unfold wordI at hd hq2
          generalize cut1 61 w = k at *
          obtain ⟨k1, k2, k3⟩ := k
          simp only at c1 c2 c3 hvb hcl1 hd hq2
          generalize unhB k2 [] = u at *
          obtain ⟨u1, u2⟩ := u
          simp only at c3 hd hq2
          simp -implicitDefEqProofs [g1', g1, g0, g2, strR]
          refine c1.call ?_
          simp -implicitDefEqProofs
          refine c2.call ?_ 
          simp -implicitDefEqProofs
          refine c3.call ?_
          have bad : (k3 && canB k1 && (decide (0 ≤ atoiV k1) && decide (atoiV k1 ≤ 7)) && u2 && decide (u1.length ≤ 24)) = false → R = ([], false) := fun h => by
            rw [if_pos (.inl h)] at hd
            exact hd.symm
          cases k3 with
          | false =>
            have hRe := bad rfl
            simp -implicitDefEqProofs [hRe, sendRes]
          | true =>
            cases ha : atoiK k1 with
            | false =>
              have hRe := bad (by simp [canB, ha])
              simp -implicitDefEqProofs [hRe, sendRes, errA]
            | true =>
              have hv := hvb ha
              simp -implicitDefEqProofs [errA]
              refine (itoaC _ hv.1 hv.2).call ?_
              by_cases hit : Lib.itoa (atoiV k1) = k1
              · have hcan : canB k1 = true := by simp [canB, ha, hit]
                rw [hcan] at hd hq2 bad
                simp -implicitDefEqProofs [hit]
                refine (cv_of (isBlockC (atoiV k1))).call ?_
                cases hb : (decide (0 ≤ atoiV k1) && decide (atoiV k1 ≤ 7)) with
                | false =>
                  have hRe := bad (by rw [hb]; simp)
                  simp -implicitDefEqProofs [hRe, sendRes]
                | true =>
                  rw [hb] at hd hq2 bad
                  simp only [Bool.and_eq_true, decide_eq_true_eq] at hb
                  cases u2 with
                  | false =>
                    have hRe := bad rfl
                    simp -implicitDefEqProofs [hRe, sendRes]
                  | true =>
                    by_cases hlen : u1.length ≤ 24
                    · have hlen' : ¬ (24 : Int) < u1.length := by omega
                      have hq3 := hq2 (by simp [hlen])
                      rw [hq3, late_bef _ _ hb.1] at hd
                      by_cases hbf : atoiV k1 ≤ befB out
                      · rw [if_pos (.inr (by simpa using hbf))] at hd
                        have hRe : R = ([], false) := hd.symm
                        simp -implicitDefEqProofs [hlen', hbf, hRe, sendRes]
                      · rw [if_neg (by simp [hlen, hbf])] at hd
                        simp -implicitDefEqProofs [hlen', hbf, ops_sz, ops_els]
                        refine ⟨by omega, ?_⟩
                        refine nx (i + 1, out ++ [⟨3, name, [], atoiV k1, u1⟩]) [(96, 900)] ⟨by simp only; omega, by simp only [List.length_append, List.length_singleton]; omega, by simp only [g3]; exact hd⟩ (by simp only; omega) (h4 := ?_)
                        simp [obOf, e1, opsOb, BO.row, befB, List.take_of_length_le, renL_opc]
                    · have hlen' : (24 : Int) < u1.length := by omega
                      have hRe := bad (by simp [hlen])
                      simp -implicitDefEqProofs [hlen', hRe, sendRes]
              · have hRe := bad (by simp [canB, hit])
                simp -implicitDefEqProofs [hit, hRe, sendRes]
      · rw [if_pos (.inr hf)] at hR
        simp -implicitDefEqProofs [strR, hf, ← hR, sendRes]
theorem iread9 (text name : List UInt8) (ht : text.length ≤ 1048576) : ACall prog 29 [.str text, .str name] [] (fun r L' => r = .tup [.sl 900 0 (sreadB text name).1.length, .bool (sreadB text name).2] ∧ L' = [(900, opsOb (sreadB text name).1)]) := by
  refine ACall.ph 900 5 (ireadO text name ht) (by simp) ?_
  rintro r L' (⟨h1, rfl, rfl⟩ | ⟨h1, rfl, rfl⟩)
  · exact .inl ⟨by rw [h1], rfl⟩
  · exact .inr ⟨by simp [clA], by simp, _, phs_tup2 (phs_nil 900 5) (phs_refl _ _ _), by rw [h1]; exact ⟨rfl, rfl⟩⟩
theorem ireadC (text name : List UInt8) (ht : text.length ≤ 1048576) : CV prog 29 [.str text, .str name] (.tup [.lst 5 ((sreadB text name).1.map BO.row), .bool (sreadB text name).2]) := by
  refine CV.of_frz (iread9 text name ht) (fun r L' hR => ?_) (hcv := by simp [clA])
  obtain ⟨rfl, rfl⟩ := hR
  refine ⟨by simp, by simp, by simp [opsOb, clR, BO.row, clL, clA], ?_⟩
  simp [frzAll, opsOb, List.take_of_length_le]
  exact impA_refl _
theorem readL_len (name : List UInt8) : ∀ (ws : List (List UInt8)) (out l : List BO), readL name ws out = some l → l.length ≤ out.length + ws.length
  | [], out, l, h => by
    simp only [readL, Option.some.injEq] at h
    simp [h]
  | w :: r, out, l, h => by
    unfold readL at h
    split at h
    · cases h
    · have := readL_len name r _ l h
      simp at this ⊢
      omega
theorem sread_len (text name : List UInt8) : (sreadB text name).1.length ≤ text.length + 1 := by
  have h1 := openB_len text
  have h2 := cutR_num 32 (openB text).1 []
  unfold sreadB
  split
  · simp
  · split
    · simp
    · rename_i l hl
      have := readL_len _ _ _ _ hl
      simp at this ⊢
      omega
@[simp] theorem renOb_ops (ρ : Nat → Option Plc) (l : List BO) : renOb ρ (opsOb l) = opsOb l := renOb_cl (clR_ops l)
end Go.Av.F
end
section
namespace Go.Av.F
open Go Go.Av Go.Proofs Go.Proofs.Tryz
set_option linter.unusedSimpArgs false
set_option linter.unusedVariables false
set_option maxRecDepth 100000
def OpPut (name : List UInt8) (o : BO) : Prop := o.kind = 3 ∧ o.a = name ∧ o.b = [] ∧ 0 ≤ o.i ∧ o.i < 8 ∧ o.text.length ≤ 24
theorem word_put {w name : List UInt8} (h : (wordB w name).2 = true) : OpPut name (wordB w name).1 := by
  unfold wordB at h ⊢
  split
  · rename_i h1
    rw [if_pos h1] at h
    cases h
  · rename_i h1
    rw [if_neg h1] at h
    simp only [Bool.and_eq_true, decide_eq_true_eq] at h
    exact ⟨rfl, rfl, rfl, h.1.1.2, h.1.2, h.2⟩
theorem readL_put {name : List UInt8} : ∀ (ws : List (List UInt8)) (out l : List BO), readL name ws out = some l → (∀ o ∈ out, OpPut name o) → ∀ o ∈ l, OpPut name o
  | [], out, l, h, ho => by
    simp only [readL, Option.some.injEq] at h
    rw [← h]
    exact ho
  | w :: r, out, l, h, ho => by
    unfold readL at h
    split at h
    · cases h
    · rename_i h1
      simp only [not_or, Bool.not_eq_false, Bool.not_eq_true] at h1
      refine readL_put r _ l h fun o h2 => ?_
      rcases List.mem_append.1 h2 with h2 | h2
      · exact ho o h2
      · rw [List.mem_singleton.1 h2]
        exact word_put h1.1
theorem sread_put (text name : List UInt8) : ∀ o ∈ (sreadB text name).1, OpPut name o := by
  unfold sreadB
  split
  · simp
  · split
    · simp
    · rename_i l hl
      exact readL_put _ _ _ hl (by simp)
def setBl (k : Nat) (bs : List BS) (o : BO) : List BS := match bs[k]? with
  | some t => bs.set k { t with bl := t.bl.set o.i.toNat o.text }
  | none => bs
def applyB (bs : List BS) (name text : List UInt8) : List BS × Int :=
  if bookOkB bs = false then ([], 5) else if (sreadB text name).2 = false then (bs, 5) else if atB bs name = false then (bs, 1) else
  match bs[atP bs name]? with
  | some t => if t.kind ≠ 1 then (bs, 3) else ((sreadB text name).1.foldl (setBl (atP bs name)) bs, 0)
  | none => (bs, 1)
def AtVol (bs : List BS) (name : List UInt8) (k : Nat) (b : List BS) : Prop := b.map BS.name = bs.map BS.name ∧ (∀ x ∈ b, x.bl.length = 8) ∧ ∃ t, b[k]? = some t ∧ t.kind = 1
theorem atP_map {a b : List BS} (h : a.map BS.name = b.map BS.name) (n : List UInt8) : atP a n = atP b n := by
  unfold atP
  have : ∀ (a b : List BS), a.map BS.name = b.map BS.name → (a.takeWhile fun x => Op.bytesLess x.name n).length = (b.takeWhile fun x => Op.bytesLess x.name n).length := by
    intro a
    induction a with
    | nil => intro b h; cases b with
      | nil => rfl
      | cons y b => simp at h
    | cons x a ih => intro b h; cases b with
      | nil => simp at h
      | cons y b =>
        simp only [List.map_cons, List.cons.injEq] at h
        simp only [List.takeWhile_cons, h.1]
        split
        · simp [ih b h.2]
        · rfl
  exact this a b h
theorem atB_map {a b : List BS} (h : a.map BS.name = b.map BS.name) (n : List UInt8) : atB a n = atB b n := by
  unfold atB
  rw [atP_map h]
  have h2 : (a.map BS.name)[atP b n]? = (b.map BS.name)[atP b n]? := by rw [h]
  simp only [List.getElem?_map] at h2
  cases h3 : a[atP b n]? <;> cases h4 : b[atP b n]? <;> simp_all
theorem setBl_vol {bs b : List BS} {name : List UInt8} {k : Nat} (h : AtVol bs name k b) (o : BO) : AtVol bs name k (setBl k b o) := by
  obtain ⟨h1, h2, t, h3, h4⟩ := h
  have hk := (List.getElem?_eq_some_iff.1 h3).1
  unfold setBl
  rw [h3]
  simp only
  refine ⟨?_, fun x hx => ?_, { t with bl := t.bl.set o.i.toNat o.text }, by rw [List.getElem?_set_self hk], h4⟩
  · rw [List.map_set, ← h1]
    have : (b.map BS.name)[k]? = some t.name := by rw [List.getElem?_map, h3]; rfl
    refine List.ext_getElem? fun j => ?_
    by_cases hj : j = k
    · subst hj
      rw [List.getElem?_set_self (by simpa using hk), this]
    · rw [List.getElem?_set_ne (Ne.symm hj)]
  · rcases List.mem_or_eq_of_mem_set hx with hx | rfl
    · exact h2 x hx
    · simpa using h2 t (List.mem_of_getElem? h3)
theorem doB_put {bs b : List BS} {name : List UInt8} {k : Nat} (h : AtVol bs name k b) (hk : atP bs name = k) (hb : atB bs name = true) {o : BO} (ho : OpPut name o) : doB b o = (setBl k b o, 0) := by
  obtain ⟨h1, h2, t, h3, h4⟩ := h
  obtain ⟨o1, o2, o3, o4, o5, o6⟩ := ho
  have e1 : atP b o.a = k := by rw [o2, atP_map h1, hk]
  have e2 : atB b o.a = true := by rw [o2, atB_map h1, hb]
  unfold doB
  rw [if_neg (by omega), if_neg (by omega), e1, e2, h3]
  simp only [Bool.true_eq_false, if_false]
  rw [if_neg (by omega), if_pos o1]
  unfold putB setBl
  rw [h3]
  simp only
  rw [if_neg (by omega), if_neg (by omega)]
theorem sapplyC (bs : List BS) (name text : List UInt8) (h : BkS bs) (ht : text.length ≤ 1048576) : CV prog 12 [bk bs, .str name, .str text] (.tup [bk (applyB bs name text).1, .int .i64 (applyB bs name text).2]) := by
  obtain ⟨R, hR⟩ : ∃ R, applyB bs name text = R := ⟨_, rfl⟩
  rw [hR]
  unfold applyB at hR
  have hl := h.1
  have hB : ∀ b ∈ bs, b.bl.length = 8 := fun b hb => (h.2 b hb).1
  have hpt := sread_put text name
  have hsl := sread_len text name
  have c1 := sreadC text name ht
  have c2 := cv_of (bookOkC bs (by omega) hB (fun b hb => by have := (h.2 b hb).2.1; omega)) (hca := by simp [bk])
  have c3 := copyC bs (by omega)
  have c4 := cv_of (atC bs name (by omega)) (hca := by simp [bk])
  generalize sreadB text name = x at *
  obtain ⟨l, ok⟩ := x
  simp only at hpt hsl c1 hR
  refine CV.of_frz (R := fun r L' => ∃ id, r = .tup [.agg [.sl id 0 R.1.length], .int .i64 R.2] ∧ L' = [(id, bkOb R.1)] ∨ r = .tup [.agg [.nils], .int .i64 R.2] ∧ L' = [] ∧ R.1 = []) ?_ ?_ (hca := by simp [bk]) (hcv := by simp [bk])
  rotate_left
  · rintro r L' ⟨id, ⟨rfl, rfl⟩ | ⟨rfl, rfl, h0⟩⟩
    · refine ⟨by simp, by simp, by simp, ?_⟩
      simp [frzAll, bk, bkOb]
      exact impA_refl _
    · refine ⟨by simp, by simp, by simp, ?_⟩
      rw [h0]
      simp only [frzAll, bk, List.map_nil]
      exact impA_tup2 (impA_agg1 (impA_nils 11)) (impA_refl _)
  refine acx func12 [(15, [⟨0, [12], [], [], []⟩, ⟨1, [], [12], [], []⟩, ⟨2, [], [12], [], []⟩, ⟨3, [], [12], [], []⟩, ⟨4, [], [12], [], []⟩, ⟨5, [], [], [], []⟩, ⟨6, [], [], [], []⟩, ⟨7, [], [], [], []⟩, ⟨8, [], [], [], []⟩, ⟨9, [], [], [], []⟩])] ntmps12 rfl rfl rfl ?_
  simp -implicitDefEqProofs [bk]
  refine c1.call ?_
  simp -implicitDefEqProofs [bk]
  refine c2.call ?_
  cases hok : bookOkB bs with
  | false =>
    rw [if_pos hok] at hR
    simp -implicitDefEqProofs [← hR]
  | true =>
    rw [if_neg (by simp [hok])] at hR
    cases ok with
    | false =>
      rw [if_pos rfl] at hR
      simp -implicitDefEqProofs [bk]
      refine callA_wh [] (by kernel_rfl) c3 (by simp [bk]) (by simp) (by simp) (by simp) (by simp) ?_
      rintro r L' ⟨rfl, rfl⟩
      refine ⟨[(6, 900)], ⟨by simp, by simp, by simp, by simp, by simp⟩, ?_⟩
      simp -implicitDefEqProofs [← hR]
    | true =>
      rw [if_neg (by simp)] at hR
      simp -implicitDefEqProofs [bk]
      refine c4.call ?_
      cases hat : atB bs name with
      | false =>
        rw [if_pos hat] at hR
        simp -implicitDefEqProofs [bk]
        refine callA_wh [] (by kernel_rfl) c3 (by simp [bk]) (by simp) (by simp) (by simp) (by simp) ?_
        rintro r L' ⟨rfl, rfl⟩
        refine ⟨[(6, 900)], ⟨by simp, by simp, by simp, by simp, by simp⟩, ?_⟩
        simp -implicitDefEqProofs [← hR]
      | true =>
        rw [if_neg (by simp [hat])] at hR
        obtain ⟨t, hk, htn⟩ := atB_some hat
        have hkl := (List.getElem?_eq_some_iff.1 hk).1
        have hk0 := (List.getElem?_eq_some_iff.1 hk).2
        have htm := List.mem_of_getElem? hk
        have ht8 := hB t htm
        rw [hk] at hR
        have hP : atP bs name = atP bs name := rfl
        generalize hkk : atP bs name = k at *
        by_cases hkd : t.kind = 1
        · simp only [hkd, ne_eq, not_true_eq_false, if_false] at hR
          simp -implicitDefEqProofs [bk, hkl, hk, hk0, row_len _ ht8, hkd]
          refine callA_wh [] (by kernel_rfl) c3 (by simp [bk]) (by simp) (by simp) (by simp) (by simp) ?_
          rintro r L' ⟨rfl, rfl⟩
          refine ⟨[(6, 900)], ⟨by simp, by simp, by simp, by simp, by simp⟩, ?_⟩
          simp -implicitDefEqProofs
          refine ev_lo (X := Nat × List BS) [6, 8, 12, 13] [(6, 6), (12, 12), (900, 900)] (fun x => [(13, .int .i64 x.1)]) (fun x => [(6, ⟨1, [[.nils]]⟩), (12, ⟨1, [[.sl 900 0 x.2.length]]⟩), (900, bkOb x.2)]) (fun x => l.length - x.1)
            (fun x => x.1 ≤ l.length ∧ x.2.length = bs.length ∧ AtVol bs name k x.2 ∧ (l.drop x.1).foldl (setBl k) x.2 = R.1) (0, bs) ⟨by simp, rfl, ⟨rfl, hB, t, hk, hkd⟩, by simp [← hR]⟩ ?_ (he := by simp [obOf])
          rintro ⟨i, b⟩ ⟨hi, hbl, hv, hd⟩
          simp only at hi hbl hv hd
          have hR2 : R.2 = 0 := by rw [← hR]
          cases hr : l.drop i with
          | nil =>
            have := dropn hr
            rw [hr] at hd
            have hie : i = l.length := by omega
            subst hie
            simp only [List.foldl_nil] at hd
            simp -implicitDefEqProofs
            exact ⟨[(900, bkOb R.1)], by simp [hd], 900, ⟨⟨rfl, by rw [hd]⟩, hR2.symm⟩, rfl⟩
          | cons o q =>
            obtain ⟨g1, g0, g2, g3⟩ := dropc hr
            rw [hr, List.foldl_cons] at hd
            have hop := hpt o (List.mem_of_getElem? g2)
            have g1' : (i : Int) < l.length := by omega
            have e1 := i64w ((i : Int) + 1) (by omega) (by omega)
            have hdo := doB_put hv hkk hat hop
            have hnm : ∀ x ∈ b, x.name.length < 1000000000 := fun x hx => by
              have : x.name ∈ b.map BS.name := List.mem_map_of_mem hx
              rw [hv.1] at this
              obtain ⟨y, hy, e⟩ := List.mem_map.1 this
              have := (h.2 y hy).2.1
              rw [← e]
              omega
            have cd := doC b o (by omega) hv.2.1 hnm ⟨by have h2 := hop.2.1; rw [h2, ← htn]; have := (h.2 t htm).2.1; omega, by rw [hop.2.2.1]; simp⟩
            rw [hdo] at cd
            have hsv := setBl_vol hv o
            have hsl2 : (setBl k b o).length = b.length := by
              have h1 := congrArg List.length hsv.1
              have h2 := congrArg List.length hv.1
              simp only [List.length_map] at h1 h2
              omega
            have hrl : o.row.length = 5 := rfl
            have htk : List.take 5 o.row = o.row := rfl
            simp -implicitDefEqProofs [g1', g1, g0, g2, hrl, htk]
            refine callA_wh [(1000, .whole 900)] (by kernel_rfl) cd (by simp [BO.row]) (by simp) (by simp [bkOb]; exact rowsMt_cl rfl (by simp [clR])) (by simp) (by simp) ?_
            rintro r L' ⟨id, hid, rfl, rfl⟩
            simp only [List.mem_cons, List.not_mem_nil, or_false] at hid
            rcases hid with rfl | rfl
            · refine ⟨[], ⟨by simp, by simp, by simp, by simp, by simp⟩, ?_⟩
              simp -implicitDefEqProofs
              exact nx (i + 1, setBl k b o) [(6, 6), (12, 12), (900, 900)] ⟨by simp only; omega, by simp only; omega, hsv, by simp only [g3]; exact hd⟩ (by simp only; omega) (h4 := by simp [obOf, e1])
            · refine ⟨[(900, 901)], ⟨by simp, by simp, by simp, by simp, by simp⟩, ?_⟩
              simp -implicitDefEqProofs
              exact nx (i + 1, setBl k b o) [(6, 6), (12, 12), (901, 900)] ⟨by simp only; omega, by simp only; omega, hsv, by simp only [g3]; exact hd⟩ (by simp only; omega) (h4 := by simp [obOf, e1])
        · simp only [hkd, ne_eq, not_false_eq_true, if_true] at hR
          simp -implicitDefEqProofs [bk, hkl, hk, hk0, row_len _ ht8, hkd]
          refine callA_wh [] (by kernel_rfl) c3 (by simp [bk]) (by simp) (by simp) (by simp) (by simp) ?_
          rintro r L' ⟨rfl, rfl⟩
          refine ⟨[(6, 900)], ⟨by simp, by simp, by simp, by simp, by simp⟩, ?_⟩
          simp -implicitDefEqProofs [← hR]
theorem iapplyO (bs : List BS) (name text : List UInt8) (h : BkS bs) (ht : text.length ≤ 1048576) : ACall prog 14 [bk bs, .str name, .str text] [] (fun r L' => (r = .tup [.agg [.sl 900 0 (applyB bs name text).1.length], .int .i64 (applyB bs name text).2] ∧ L' = [(900, bkOb (applyB bs name text).1)]) ∨ (r = .tup [.agg [.nils], .int .i64 (applyB bs name text).2] ∧ L' = [] ∧ (applyB bs name text).1 = [])) := by
  obtain ⟨R, hR⟩ : ∃ R, applyB bs name text = R := ⟨_, rfl⟩
  rw [hR]
  unfold applyB at hR
  have hl := h.1
  have hB : ∀ b ∈ bs, b.bl.length = 8 := fun b hb => (h.2 b hb).1
  have hpt := sread_put text name
  have hsl := sread_len text name
  have c1 := ireadC text name ht
  have c2 := cv_of (ibookOkC bs (by omega) hB (fun b hb => by have := (h.2 b hb).2.1; omega)) (hca := by simp [bk])
  rw [ok_eq] at c2
  have c3 := ownC2 bs (by omega)
  generalize sreadB text name = x at *
  obtain ⟨l, ok⟩ := x
  simp only at hpt hsl c1 hR
  refine acx func14 [(15, [⟨0, [], [], [], []⟩, ⟨1, [8], [], [], []⟩, ⟨2, [], [8], [], []⟩, ⟨3, [], [8], [], []⟩, ⟨4, [14], [8], [], []⟩, ⟨5, [], [8, 14], [], []⟩, ⟨6, [14], [8, 14], [], []⟩, ⟨7, [900], [14], [], []⟩, ⟨8, [], [14], [], []⟩, ⟨9, [], [], [], []⟩, ⟨10, [], [], [], []⟩])] ntmps14 rfl rfl rfl ?_
  simp -implicitDefEqProofs [bk]
  refine c2.call ?_
  cases hok : bookOkB bs with
  | false =>
    rw [if_pos hok] at hR
    simp -implicitDefEqProofs [← hR]
  | true =>
    rw [if_neg (by simp [hok])] at hR
    have hS : Srt bs := pw_srt (okB_iff.1 hok).2.1
    have c4 := cv_of (placeC bs name (by omega) hB hS) (hca := by simp [bk])
    simp -implicitDefEqProofs [bk]
    refine callA_wh [] (by kernel_rfl) c3 (by simp [bk]) (by simp) (by simp) (by simp) (by simp) ?_
    rintro r L' ⟨rfl, rfl⟩
    refine ⟨[(900, 900)], ⟨by simp, by simp, by simp, by simp, by simp⟩, ?_⟩
    simp -implicitDefEqProofs [bk]
    refine c1.call ?_
    simp -implicitDefEqProofs [bk]
    refine c4.call ?_
    cases ok with
    | false =>
      rw [if_pos rfl] at hR
      simp -implicitDefEqProofs [← hR]
    | true =>
      rw [if_neg (by simp)] at hR
      cases hat : atB bs name with
      | false =>
        rw [if_pos hat] at hR
        simp -implicitDefEqProofs [← hR]
      | true =>
        rw [if_neg (by simp [hat])] at hR
        obtain ⟨t, hk, htn⟩ := atB_some hat
        have hkl := (List.getElem?_eq_some_iff.1 hk).1
        have hk0 := (List.getElem?_eq_some_iff.1 hk).2
        have htm := List.mem_of_getElem? hk
        have ht8 := hB t htm
        rw [hk] at hR
        generalize hkk : atP bs name = k at *
        by_cases hkd : t.kind = 1
        · simp only [hkd, ne_eq, not_true_eq_false, if_false] at hR
          simp -implicitDefEqProofs [bk, hkl, hk, hk0, row_len _ ht8, hkd]
          refine ev_lo (X := Nat × List BS) [6, 8, 11, 50, 51, 52] [(6, 6), (8, 8), (900, 900)] (fun x => [(52, .int .i64 x.1)]) (fun x => [(6, ⟨1, [[.nils]]⟩), (8, ⟨1, [[.sl 900 0 x.2.length]]⟩), (900, bkOb x.2)]) (fun x => l.length - x.1)
            (fun x => x.1 ≤ l.length ∧ x.2.length = bs.length ∧ AtVol bs name k x.2 ∧ (l.drop x.1).foldl (setBl k) x.2 = R.1) (0, bs) ⟨by simp, rfl, ⟨rfl, hB, t, hk, hkd⟩, by simp [← hR]⟩ ?_ (he := by simp [obOf])
          rintro ⟨i, b⟩ ⟨hi, hbl, hv, hd⟩
          simp only at hi hbl hv hd
          have hR2 : R.2 = 0 := by rw [← hR]
          cases hr : l.drop i with
          | nil =>
            have := dropn hr
            rw [hr] at hd
            have hie : i = l.length := by omega
            subst hie
            simp only [List.foldl_nil] at hd
            simp -implicitDefEqProofs
            exact ⟨by rw [hd], by rw [hd], hR2.symm⟩
          | cons o q =>
            obtain ⟨g1, g0, g2, g3⟩ := dropc hr
            rw [hr, List.foldl_cons] at hd
            have hop := hpt o (List.mem_of_getElem? g2)
            have g1' : (i : Int) < l.length := by omega
            have e1 := i64w ((i : Int) + 1) (by omega) (by omega)
            have hsv := setBl_vol hv o
            obtain ⟨u, hu, hu1⟩ := hv.2.2
            have hul := (List.getElem?_eq_some_iff.1 hu).1
            have hu0 := (List.getElem?_eq_some_iff.1 hu).2
            have hu8 := hv.2.1 u (List.mem_of_getElem? hu)
            have hsl2 : (setBl k b o).length = b.length := by
              have h1 := congrArg List.length hsv.1
              have h2 := congrArg List.length hv.1
              simp only [List.length_map] at h1 h2
              omega
            have hrl : o.row.length = 5 := rfl
            have htk : List.take 5 o.row = o.row := rfl
            have q3 : o.row[3] = AV.int .i64 o.i := rfl
            have q4 : o.row[4] = AV.str o.text := rfl
            obtain ⟨p1, p2, p3, p4, p5, p6⟩ := hop
            have hbl8 : 3 + o.i.toNat + 1 ≤ 11 := by omega
            simp -implicitDefEqProofs [g1', g1, g0, g2, hrl, htk, hul, hu, hu0, row_len _ hu8, q3, q4]
            have hone : ∀ (x : AV), x ∈ o.row → oneA x = true := fun x hx => by
              simp only [BO.row, List.mem_cons, List.not_mem_nil, or_false] at hx
              rcases hx with rfl | rfl | rfl | rfl | rfl <;> rfl
            refine ⟨hone, ⟨p4, p5⟩, by omega, ?_⟩
            have hrow := row_set u o.i.toNat o.text (by omega)
            have hset : setBl k b o = b.set k { u with bl := u.bl.set o.i.toNat o.text } := by
              unfold setBl
              rw [hu]
            refine nx (i + 1, setBl k b o) [(6, 6), (8, 8), (900, 900)] ⟨by simp only; omega, by simp only; omega, hsv, by simp only [g3]; exact hd⟩ (by simp only; omega) (h4 := ?_)
            simp [obOf, e1, hsl2]
            rw [hset]
            simp [bkOb, List.map_set, hrow]
        · simp only [hkd, ne_eq, not_false_eq_true, if_true] at hR
          simp -implicitDefEqProofs [bk, hkl, hk, hk0, row_len _ ht8, hkd, ← hR]
end Go.Av.F
end
section
namespace Go.Av.F
open Go Go.Av Go.Proofs Go.Proofs.Tryz
set_option linter.unusedSimpArgs false
set_option linter.unusedVariables false
set_option maxRecDepth 100000
theorem setBl_len (k : Nat) (b : List BS) (o : BO) : (setBl k b o).length = b.length := by
  unfold setBl
  split <;> simp
theorem setBl_8 (k : Nat) {b : List BS} (h : ∀ x ∈ b, x.bl.length = 8) (o : BO) : ∀ x ∈ setBl k b o, x.bl.length = 8 := by
  unfold setBl
  split
  · rename_i t ht
    intro x hx
    rcases List.mem_or_eq_of_mem_set hx with hx | rfl
    · exact h x hx
    · simpa using h t (List.mem_of_getElem? ht)
  · exact h
theorem foldBl_len (k : Nat) : ∀ (l : List BO) (b : List BS), (l.foldl (setBl k) b).length = b.length
  | [], b => rfl
  | o :: l, b => by rw [List.foldl_cons, foldBl_len k l, setBl_len]
theorem foldBl_8 (k : Nat) : ∀ (l : List BO) {b : List BS}, (∀ x ∈ b, x.bl.length = 8) → ∀ x ∈ l.foldl (setBl k) b, x.bl.length = 8
  | [], b, h => h
  | o :: l, b, h => by rw [List.foldl_cons]; exact foldBl_8 k l (setBl_8 k h o)
theorem applyB_len (bs : List BS) (name text : List UInt8) : (applyB bs name text).1.length ≤ bs.length := by
  unfold applyB
  repeat' split
  all_goals simp [foldBl_len]
theorem applyB_8 (bs : List BS) (name text : List UInt8) (h : ∀ x ∈ bs, x.bl.length = 8) : ∀ x ∈ (applyB bs name text).1, x.bl.length = 8 := by
  unfold applyB
  split
  · simp
  · split
    · exact h
    · split
      · exact h
      · split
        · split
          · exact h
          · exact foldBl_8 _ _ h
        · exact h
theorem iapply9 (bs : List BS) (name text : List UInt8) (h : BkS bs) (ht : text.length ≤ 1048576) : ACall prog 14 [bk bs, .str name, .str text] [] (fun r L' => r = .tup [.agg [.sl 900 0 (applyB bs name text).1.length], .int .i64 (applyB bs name text).2] ∧ L' = [(900, bkOb (applyB bs name text).1)]) := by
  refine ACall.ph 900 11 (iapplyO bs name text h ht) (by simp) ?_
  rintro r L' (⟨rfl, rfl⟩ | ⟨rfl, rfl, h0⟩)
  · exact .inl ⟨rfl, rfl⟩
  · exact .inr ⟨by simp, by simp, _, phs_tup1, by rw [h0]; exact ⟨rfl, rfl⟩⟩
theorem iapplyC (bs : List BS) (name text : List UInt8) (h : BkS bs) (ht : text.length ≤ 1048576) : CV prog 14 [bk bs, .str name, .str text] (.tup [bk (applyB bs name text).1, .int .i64 (applyB bs name text).2]) := by
  refine CV.of_frz (iapply9 bs name text h ht) ?_ (hca := by simp [bk]) (hcv := by simp [bk])
  rintro r L' ⟨rfl, rfl⟩
  refine ⟨by simp, by simp, by simp, ?_⟩
  simp [frzAll, bk, bkOb]
  exact impA_refl _
theorem lawSendApplyX (bs : List BS) (name text : List UInt8) (hb : ∀ b ∈ bs, BsG b) (hbl : bs.length ≤ maxLen) (h1 : name.length ≤ maxLen) (h2 : text.length ≤ maxLen) : CV prog 4 [bk bs, .str name, .str text] (.bool true) := by
  obtain ⟨z, hz, hz1, hz2⟩ := szBookC bs hb hbl
  refine cvx func4 [(14, [⟨0, [10, 38], [], [], []⟩, ⟨1, [3, 38], [10, 38], [], []⟩, ⟨2, [], [10, 38], [], []⟩, ⟨3, [], [], [], []⟩, ⟨4, [], [], [], []⟩])] ntmps4 rfl rfl rfl ?_ (hca := by simp [bk])
  by_cases hn : name.length ≤ 1048576
  rotate_left
  · have hn' : (1048576 : Int) < name.length := by omega
    simp -implicitDefEqProofs [hn', bk]
  have hn' : ¬ (1048576 : Int) < name.length := by omega
  by_cases ht : text.length ≤ 1048576
  rotate_left
  · have ht' : (1048576 : Int) < text.length := by omega
    simp -implicitDefEqProofs [hn', ht', bk]
  have ht' : ¬ (1048576 : Int) < text.length := by omega
  simp -implicitDefEqProofs [hn', ht', bk]
  refine hz2.view (by simp [bk]) ?_
  by_cases h0 : z < 0
  · simp -implicitDefEqProofs [h0]
  simp -implicitDefEqProofs [h0]
  have hS := hz1 (by omega)
  have hB : ∀ b ∈ bs, b.bl.length = 8 := fun b h => (hS.2 b h).1
  have hl := hS.1
  have hR8 := applyB_8 bs name text hB
  have hRl := applyB_len bs name text
  have c1 := toBookC bs (by omega) hB
  have c3 := sapplyC bs name text hS ht
  have c4 := iapplyC bs name text hS ht
  have c5 := toBookO bs (by omega) hB
  have c6 := iapply9 bs name text hS ht
  have c7 := eqBookC (applyB bs name text).1 (applyB bs name text).1 (by omega) hR8 hR8
  have c8 := eqBookC bs bs (by omega) hB hB
  have c9 := markBookC bs (by omega) hB
  have c10 := markBookC (applyB bs name text).1 (by omega) hR8
  have c11 := heldBookC (applyB bs name text).1.length (by omega)
  have htk : ∀ k : Nat, List.take k (List.map BS.row (mkL k)) = List.map BS.row (mkL k) := fun k => List.take_of_length_le (by simp [mkL_len])
  simp only [bk, decide_true] at c1 c3 c4 c5 c6 c7 c8 c9 c10 c11
  generalize (applyB bs name text).1 = rs at *
  generalize (applyB bs name text).2 = rc at *
  refine c1.call ?_
  simp -implicitDefEqProofs
  refine c3.call ?_
  simp -implicitDefEqProofs
  refine callA_wh [] (by kernel_rfl) c5 (by simp) (by simp) trivial (by simp) (by simp) ?_
  rintro r L' ⟨rfl, rfl⟩
  refine ⟨[(900, 38)], ⟨by simp, by simp, by simp, by simp, by simp⟩, ?_⟩
  simp only [afterS]
  simp -implicitDefEqProofs
  refine callA_vw [] (by kernel_rfl) c6 (by simp [vwOk, mtA]) (by simp) trivial (by simp) (by simp) ?_
  rintro r L' ⟨rfl, rfl⟩
  refine ⟨by simp, by simp [noL_bs], [(900, 43)], ⟨by simp, by simp, by simp, by simp, by simp⟩, ?_⟩
  simp only [afterS]
  simp -implicitDefEqProofs
  refine c7.view (by simp [vwOk, mtA]) ?_
  simp -implicitDefEqProofs
  refine c1.call ?_
  simp -implicitDefEqProofs
  refine c8.view (by simp [vwOk, mtA]) ?_
  simp -implicitDefEqProofs
  refine callA_wh [(1000, .whole 38)] (by kernel_rfl) c9 (by simp) (by simp) ⟨⟨bkOb bs, by simp, rfl, rowsMt_cl rfl (clR_bk bs)⟩, trivial⟩ (by simp) (by simp) ?_
  rintro r L' ⟨rfl, rfl⟩
  refine ⟨[], ⟨by simp, by simp, by simp, by simp, by simp⟩, ?_⟩
  simp only [afterS]
  simp -implicitDefEqProofs
  refine ⟨fun _ => ?_, by omega⟩
  refine c7.view (by simp [vwOk, mtA]) ?_
  simp -implicitDefEqProofs
  refine callA_wh [(1000, .whole 43)] (by kernel_rfl) c10 (by simp) (by simp) ⟨⟨bkOb rs, by simp, rfl, rowsMt_cl rfl (clR_bk rs)⟩, trivial⟩ (by simp) (by simp) ?_
  rintro r L' ⟨rfl, rfl⟩
  refine ⟨[], ⟨by simp, by simp, by simp, by simp, by simp⟩, ?_⟩
  simp only [afterS]
  simp -implicitDefEqProofs
  refine c11.view (by simp [vwOk, mtA, mkL_len, htk]) ?_
  have hp0 : ¬ (1 + 11 * (rs.length : Int)) < 0 := by omega
  simp -implicitDefEqProofs [hp0]
  refine c1.call ?_
  simp -implicitDefEqProofs
  refine c4.call ?_
  simp -implicitDefEqProofs
  refine c7.call ?_
  simp -implicitDefEqProofs
  refine c11.view (by simp [vwOk, mtA, mkL_len, htk]) ?_
  simp -implicitDefEqProofs [hp0]
theorem lawSendApplyX' (b : BK) (name text : List UInt8) (hb : BkW b) (h1 : name.length ≤ maxLen) (h2 : text.length ≤ maxLen) : CV prog 4 [.agg b.row, .str name, .str text] (.bool true) :=
  lawSendApplyX b.sets name text hb.1 hb.2 h1 h2
end Go.Av.F
end
section
namespace Go.Av
open Go.RowKit Go.ChangeShapes Go.WideShapes Go.ChangeAt
set_option linter.unusedSimpArgs false
set_option linter.unusedVariables false
variable {P : Program} {W : World}
theorem laid_at {n : String} {d : DataW Unit} : ∀ {laid : List (String × DataW Unit)} {ps : List MemPlace}, DataW.LaidVars P W laid ps → (n, d) ∈ laid →
    ∃ g t cs fuel p, P.globalNamed n = some g ∧ (P.globals[g]?).map (·.type) = some t ∧ W.var? P n = some cs ∧ DataW.trod (fun _ => ()) P W 0 (fun _ => true) false fuel t cs.toList = some (d, p)
  | [], ps, _, hm => by simp at hm
  | (m, e) :: r, ps, h, hm => by
    obtain ⟨g, t, cs, fuel, p, q, h1, h2, h3, h4, h5, _⟩ := h
    rcases List.mem_cons.1 hm with hm | hm
    · injection hm with e1 e2
      subst e1; subst e2
      exact ⟨g, t, cs, fuel, p, h1, h2, h3, h4⟩
    · exact laid_at h5 hm
theorem var_gl {n : String} {g : Nat} {cs : Array Value} (hg : P.globalNamed n = some g) (hv : W.var? P n = some cs) (avs : List AV) (hl : avs.length = cs.size) (hne : avs ≠ []) (hr : ∀ j, j < avs.length → AVRel W (Old W) noG (avs.getD j .top) (cs.getD j undef)) :
    AVRel W (Old W) noG (.elm avs) (.pointer (some ⟨g, 0, none⟩)) ∧ Old W ⟨g, avs.length, none⟩ ∧ W.cell? ⟨g, avs.length, none⟩ = none := by
  have hc := fun i => World.var?_cell hg hv i
  have h0 : 0 < cs.size := by rw [← hl]; exact List.length_pos_iff.2 hne
  have hcell : ∀ j, j < avs.length → W.cell? ⟨g, j, none⟩ = some (cs.getD j undef) := fun j hj => by
    rw [hc, Array.getElem?_eq_getElem (by omega)]
    simp [Array.getD, show j < cs.size by omega]
  have hb : g < W.heap.size := World.block_lt_of_cell? W _ (hcell 0 (by omega))
  refine ⟨.elm _ avs _ (fun j => cs.getD j undef) rfl (fun j hj => hb) (fun j hj => ?_) hr, hb, ?_⟩
  · simpa [Addr.at] using hcell j hj
  · rw [hc, Array.getElem?_eq_none (by omega)]
theorem laid_tab {laid : List (String × DataW Unit)} (h : laidMet P laid W) {n : String} {g : Nat} {zs : List Int} {k : IntKind} {t e : TypeId} {m : Nat} (hm : (n, (Lib.tabData k zs : DataW Unit)) ∈ laid) (hg : P.globalNamed n = some g) (hty : (P.globals[g]?).map (·.type) = some t)
    (ht : P.underlying t = some (.array m e)) (he : P.underlying e = some (.int k)) (hce : P.cellsOf e = 1) (hct : P.cellsOf t = m) (hne : zs ≠ []) :
    AVRel W (Old W) noG (.elm (zs.map (AV.int k))) (.pointer (some ⟨g, 0, none⟩)) ∧ Old W ⟨g, (zs.map (AV.int k)).length, none⟩ ∧ W.cell? ⟨g, (zs.map (AV.int k)).length, none⟩ = none := by
  obtain ⟨ps, hL, _⟩ := h
  obtain ⟨g', t', cs, fuel, p, h1, h2, h3, h4⟩ := laid_at hL hm
  obtain rfl := Option.some.inj (hg.symm.trans h1)
  obtain rfl := Option.some.inj (hty.symm.trans h2)
  have hcs := Lib.cells_of_tab ht he hce hct h4
  have hcs2 : cs = (zs.map fun z => Value.int k z).toArray := by rw [← hcs]
  subst hcs2
  refine var_gl hg h3 _ (by simp) (by simpa using hne) fun j hj => ?_
  simp only [List.length_map] at hj
  simp [List.getD, Array.getD, hj]
  exact .int _ _ _
theorem laid_ifc {laid : List (String × DataW Unit)} (h : laidMet P laid W) {n s : String} {d : DataW Unit} {g : Nat} {t : TypeId} {m : Array (String × TypeId)} (hm : (n, (DataW.iface s d : DataW Unit)) ∈ laid) (hg : P.globalNamed n = some g) (hty : (P.globals[g]?).map (·.type) = some t)
    (ht : P.underlying t = some (.interface m)) : AVRel W (Old W) noG (.elm [.ifc]) (.pointer (some ⟨g, 0, none⟩)) ∧ Old W ⟨g, [AV.ifc].length, none⟩ ∧ W.cell? ⟨g, [AV.ifc].length, none⟩ = none := by
  obtain ⟨ps, hL, _⟩ := h
  obtain ⟨g', t', cs, fuel, p, h1, h2, h3, h4⟩ := laid_at hL hm
  obtain rfl := Option.some.inj (hg.symm.trans h1)
  obtain rfl := Option.some.inj (hty.symm.trans h2)
  cases fuel with
  | zero => simp [DataW.trod] at h4
  | succ fuel =>
    unfold DataW.trod at h4
    simp only [ht] at h4
    obtain ⟨l⟩ := cs
    simp only at h4
    match l, h4, h3 with
    | [.iface u v], h4, h3 =>
      refine var_gl hg h3 _ rfl (by simp) fun j hj => ?_
      obtain rfl : j = 0 := by simpa using hj
      exact .ifc _ _ _
    | [.nilIface], h4, h3 => simp at h4
    | [], h4, h3 => simp at h4
    | .int _ _ :: _, h4, h3 => simp at h4
    | _ :: _ :: _, h4, h3 => simp at h4
end Go.Av
end
section
namespace Go.Proofs.YtffammdakbbanaaGreatDoor
open Go.ChangeShapes Go.WideShapes Go.ChangeAt Go.RowKit
set_option linter.unusedVariables false
theorem fact_own : ownKnob Tryz.prog.godebug = none := by kernel_rfl
theorem fact_laidOut : laidOutB Tryz.prog = true := by kernel_rfl
theorem fact_mapsRowed : mapsRowed Tryz.prog = true := by kernel_rfl
theorem fact_heard : Tryz.prog.stopsHeard = true := by kernel_rfl
theorem fact_mayEnter : Tryz.prog.mayEnter = true := by kernel_rfl
theorem fact_main : Tryz.pinned.checked.prog.mainIs = some (true, "ad0d94105eb6e27317b1ac9113807a56e7b4c351d1e11cd5cd834b34e0abc181".toList) := by kernel_rfl
theorem fact_looks : true = Tryz.prog.looks [] := by kernel_rfl
end Go.Proofs.YtffammdakbbanaaGreatDoor
end
