/- Lemmas for the proof, no statement of the seat; no conditions. -/
import Derived.Test.YtffammdakbbanaaGreatDoorLayAL
import Derived.Test.YtffammdakbbanaaGreatDoorProg
import Derived.Shelf.Small.Strs
import Derived.Shelf.Utf8.RuneCount
import Derived.Shelf.Strconv.Atoi
import Derived.Shelf.Strconv.Itoa0
import Derived.Shelf.Strconv.Itoa1
import Derived.Shelf.LaysM
import Derived.Shelf.Strconv.Itoa2
import Derived.Shelf.Strconv.Itoa3
import Derived.Shelf.Strconv.AtoiErrFast
import Derived.Shelf.Strconv.ParseIntEmpty
import Derived.Shelf.Strconv.AtoiFail
import Derived.Shelf.Strconv.Clone
import Derived.Shelf.Strconv.SyntaxError
import Derived.Shelf.LaysC
import Derived.Shelf.Strconv.ToError
import Derived.Shelf.Strconv.Lower
import Derived.Shelf.Strconv.ParseUint10
import Derived.Shelf.Strconv.ParseUint10Empty
import Derived.Shelf.Strconv.ParseUint10Any
import Derived.Shelf.Strconv.ParseInt10
import Derived.Shelf.Strconv.AtoiLong
import Derived.Shelf.Strconv.AtoiInnerAll
import Derived.Shelf.Strconv.RangeError
import Derived.Shelf.Strconv.ToErrorRange
import Derived.Shelf.Strconv.AtoiAll
import Derived.Shelf.Strings.Search1
import Derived.Shelf.Strings.Search2
import Derived.Shelf.Strings.Search3
import Derived.Shelf.Strings.Count
import Derived.Shelf.Strings.SplitShaped
import Derived.Shelf.Unicode.Decode
import Derived.Shelf.Strings.RuneCount
import Derived.Shelf.Strings.Explode
import Derived.Shelf.Unicode.DecodeAny
import Derived.Shelf.Unicode.DecodeLast
section
namespace Go.Av.F
open Go Go.Av Go.Proofs Go.Proofs.Tryz
set_option linter.unusedSimpArgs false
set_option linter.unusedVariables false
set_option maxRecDepth 100000
attribute [simp] DE.row PT.row intRow
attribute [simp] tt2 tt3 tt4 tt5 tt6 tt7 tt8 tt9 tt10 tt11 tt12 tt13 tt14 tt15 tt16 tt17 tt18 tt19 tt20 tt21 tt22 tt23 tt24 tt25 tt26 tt27 tt28 tt34 tt35 tt36 tt38 tt39 tt40 tt50 tt51 tt52 tt56 tt57 tt60 tt63 tt68 tt69 tt70 tt71 tt72 tt76 tt77 tt95 tt110 tt111 tt114 tt115 tt116 tt117 tt118 tt119 tt128 tt149 tt152 tt154 tt174 tt175 tt179 tt183 tt186 tt206 tt207 tt215 tt216 tt219 tt220 tt224 tt227 tt228 tt237 tt238 tt244 tt245 tt246 tt251 tt252 tt253 tt254 tt268 tt269 tt270 tt271 tt278 tt279 tt284 tt285 tt286 tt287 tt288 tt290 tt291 tt293 tt294 tt295 tt296
theorem cv_of {f : Nat} {args : List AV} {v : AV} (h : ACall prog f args [] (fun r L' => r = v ∧ L' = [])) (he : enters prog f = true := by kernel_rfl) (hca : clL args = true := by simp) (hcv : clA v = true := by simp) : CV prog f args v := ⟨he, hca, hcv, h⟩
end Go.Av.F
end
section
namespace Go.Av.F
open Go Go.Av Go.Proofs Go.Proofs.Tryz
set_option linter.unusedSimpArgs false
set_option linter.unusedVariables false
set_option maxRecDepth 100000
attribute [simp] shL sh1 beqC beq1
@[simp] theorem eqTyPtr : eqTy prog 69 = true := by
  have g : prog.eqGuardType prog.depth 69 = false := by kernel_rfl
  have s : prog.stoodInHeld 69 = false := by kernel_rfl
  simp -implicitDefEqProofs [eqTy, g, eqOk, eqFs, underlying69, underlying3, s, shL, sh1]
end Go.Av.F
end
section
namespace Go.Av.F
open Go Go.Av Go.Proofs Go.Proofs.Tryz
set_option linter.unusedSimpArgs false
set_option linter.unusedVariables false
set_option maxRecDepth 100000
def mdig (k : Nat) (out : List UInt8) : List UInt8 := if h : k = 0 then out else mdig (k / 10) (UInt8.ofNat (48 + k % 10) :: out)
termination_by k
theorem mdig_pos {k : Nat} (h : 0 < k) (out : List UInt8) : mdig k out = mdig (k / 10) (UInt8.ofNat (48 + k % 10) :: out) := by
  rw [mdig, dif_neg (by omega)]
theorem mdig_zero (out : List UInt8) : mdig 0 out = out := by
  rw [mdig, dif_pos rfl]
def mtB (k : Nat) : List UInt8 := if k = 0 then [109, 48] else 109 :: mdig k []
theorem markTextC (k : Nat) (hk : k < 1000000000) : CV prog 97 [.int .i64 k] (.str (mtB k)) := by
  obtain ⟨R, hR⟩ : ∃ R, mtB k = R := ⟨_, rfl⟩
  rw [hR]
  refine cvx func97 [] ntmps97 rfl rfl rfl ?_
  by_cases h0 : k = 0
  · subst h0
    simp [mtB] at hR
    simp -implicitDefEqProofs [← hR]
  · rw [mtB, if_neg h0] at hR
    simp -implicitDefEqProofs [h0]
    refine ev_lp (X := Nat × List UInt8) [0, 3] [] (fun x => [(0, .int .i64 x.1), (3, .str x.2)]) (fun _ => []) (fun x => x.1) (fun x => x.2.length + x.1 ≤ k ∧ 109 :: mdig x.1 x.2 = R) (k, []) (by simp [hR]) ?_
    rintro ⟨j, out⟩ ⟨hj, hm⟩
    simp only at hj hm
    by_cases hz : j = 0
    · subst hz
      rw [mdig_zero] at hm
      simp -implicitDefEqProofs [hm]
      omega
    · rw [mdig_pos (by omega)] at hm
      have hj' : 0 < j := by omega
      have e1 := i64w (48 + (j : Int) % 10) (by omega) (by omega)
      have e3 := i64w ((j : Int) / 10) (by omega) (by omega)
      have e2 : byteOf [.int .u8 (IntKind.u8.wrap (48 + (j : Int) % 10))] = 48 + UInt8.ofNat (j % 10) := by
        have : IntKind.u8.wrap (48 + (j : Int) % 10) = ((48 + j % 10 : Nat) : Int) := by
          show (48 + (j : Int) % 10) % 256 = _
          omega
        rw [this]
        show UInt8.ofNat (((48 + j % 10 : Nat) : Int)).toNat = _
        rw [Int.toNat_natCast, UInt8.ofNat_add]
        rfl
      have t1 : (j : Int).tmod 10 = (j : Int) % 10 := Int.tmod_eq_emod_of_nonneg (by omega)
      have t2 : (j : Int).tdiv 10 = (j : Int) / 10 := Int.tdiv_eq_ediv_of_nonneg (by omega)
      simp -implicitDefEqProofs [hj', hz, t1, t2, e1, e3]
      refine ⟨isU8_wrap _, by omega, ?_⟩
      refine nx (j / 10, UInt8.ofNat (48 + j % 10) :: out) [] ?_ ?_ (h4 := ?_)
      · refine ⟨?_, hm⟩
        simp only [List.length_cons]
        omega
      · simp only
        omega
      · simp [t1, t2, e1, e2, e3]
theorem markTextI (z : Int) (k : Nat) (hz : z = k) (hk : k < 1000000000) : CV prog 97 [.int .i64 z] (.str (mtB k)) := hz ▸ markTextC k hk
def mkRow (k : Nat) : BS := ⟨mtB k, ((k + 1 : Nat) : Int), mtB (k + 2), (List.range 8).map fun j => mtB (k + 3 + j)⟩
def mkL (n : Nat) : List BS := (List.range n).map fun i => mkRow (1 + 11 * i)
theorem markSetsC (bs : List BS) (hl : bs.length ≤ 2000000) (hB : ∀ b ∈ bs, b.bl.length = 8) :
    ACall prog 45 [.sl 1000 0 bs.length, .int .i64 1] [(1000, bkOb bs)] (fun r L' => r = .int .i64 (1 + 11 * (bs.length : Int)) ∧ L' = [(1000, bkOb (mkL bs.length))]) := by
  obtain ⟨n, hn⟩ : ∃ n, bs.length = n := ⟨_, rfl⟩
  rw [hn] at hl ⊢
  refine acx func45 [(13, [⟨0, [], [], [], []⟩, ⟨1, [], [], [], []⟩, ⟨2, [], [], [], []⟩, ⟨3, [], [], [], []⟩, ⟨5, [1000], [], [], []⟩, ⟨6, [], [], [], []⟩, ⟨4, [], [1000], [], []⟩, ⟨7, [], [], [], []⟩, ⟨8, [], [], [], []⟩])] ntmps45 rfl rfl rfl ?_
  simp -implicitDefEqProofs
  refine ev_lp (X := Nat × List BS) [0, 1, 5] [(1000, 1000)] (fun x => [(5, .int .i64 x.1), (1, .int .i64 (1 + 11 * (x.1 : Int)))]) (fun x => [(1000, bkOb x.2)]) (fun x => n - x.1)
    (fun x => x.1 ≤ n ∧ x.2.length = n ∧ (∀ b ∈ x.2, b.bl.length = 8) ∧ ∀ j, j < x.1 → x.2[j]? = some (mkRow (1 + 11 * j))) (0, bs) ⟨by omega, hn, hB, by omega⟩ ?_ (he := by simp [obOf])
  rintro ⟨i, cs⟩ ⟨hi, hc, hb, hm⟩
  simp only at hi hc hb hm
  by_cases h2 : i < n
  · obtain ⟨s, f1⟩ : ∃ s, cs[i]? = some s := ⟨_, List.getElem?_eq_getElem (by omega)⟩
    have h2' : (i : Int) < n := by omega
    have hil : i < cs.length := by omega
    have e1 := i64w (1 + 11 * (i : Int) + 1) (by omega) (by omega)
    have e2 := i64w (1 + 11 * (i : Int) + 1 + 1) (by omega) (by omega)
    have e3 := i64w (1 + 11 * (i : Int) + 1 + 1 + 1) (by omega) (by omega)
    simp -implicitDefEqProofs [h2', hil]
    refine (markTextI _ (1 + 11 * i) (by omega) (by omega)).call ?_
    simp -implicitDefEqProofs [hil, e1, e2, e3, f1, h2]
    refine (markTextI _ (1 + 11 * i + 2) (by omega) (by omega)).call ?_
    simp -implicitDefEqProofs [hil, e1, e2, e3, f1, h2]
    have f0 : cs[i] = s := (List.getElem?_eq_some_iff.1 f1).2
    have s8 : s.bl.length = 8 := hb s (List.mem_of_getElem? f1)
    have e5 : (⟨11, (List.map BS.row cs).set i (AV.str (mtB (1 + 11 * i)) :: AV.int IntKind.i64 (1 + 11 * (i : Int) + 1) :: AV.str (mtB (1 + 11 * i + 2)) :: List.map AV.str cs[i].bl)⟩ : Ob) = bkOb (cs.set i ⟨mtB (1 + 11 * i), 1 + 11 * i + 1, mtB (1 + 11 * i + 2), s.bl⟩) := by
      simp [bkOb, List.map_set, BS.row, f0]
    refine ev_lp (X := Nat × List BS) [0, 1, 5, 6] [(1000, 1000)] (fun x => [(6, .int .i64 x.1), (1, .int .i64 (1 + 11 * (i : Int) + 1 + 1 + 1 + x.1))]) (fun x => [(1000, bkOb x.2)]) (fun x => 8 - x.1)
      (fun x => x.1 ≤ 8 ∧ x.2.length = n ∧ (∀ b ∈ x.2, b.bl.length = 8) ∧ (∀ j, j < i → x.2[j]? = some (mkRow (1 + 11 * j))) ∧ ∃ t, x.2[i]? = some t ∧ t.name = mtB (1 + 11 * i) ∧ t.kind = 1 + 11 * i + 1 ∧ t.frm = mtB (1 + 11 * i + 2) ∧ ∀ q, q < x.1 → t.bl[q]? = some (mtB (1 + 11 * i + 3 + q)))
      (0, cs.set i ⟨mtB (1 + 11 * i), 1 + 11 * i + 1, mtB (1 + 11 * i + 2), s.bl⟩) ?_ ?_ (he := by simp [obOf, e5])
    · refine ⟨by omega, by simp [hc], ?_, ?_, ⟨mtB (1 + 11 * i), 1 + 11 * i + 1, mtB (1 + 11 * i + 2), s.bl⟩, ?_, rfl, rfl, rfl, by simp⟩
      · intro b hbm
        rcases List.mem_or_eq_of_mem_set hbm with h | rfl
        · exact hb b h
        · exact s8
      · intro j hj
        rw [List.getElem?_set_ne (by omega)]
        exact hm j hj
      · simp [hil]
    rintro ⟨j, ds⟩ ⟨hj, hd, hb', hm', t, g1, g2, g3, g4, g5⟩
    simp only at hj hd hb' hm' g1 g5
    have t8 : t.bl.length = 8 := hb' t (List.mem_of_getElem? g1)
    have hil' : i < ds.length := by omega
    have g0 : ds[i] = t := (List.getElem?_eq_some_iff.1 g1).2
    by_cases h3 : j < 8
    · have h3' : (j : Int) < 8 := by omega
      have e6 := i64w ((j : Int) + 1) (by omega) (by omega)
      have e7 := i64w (1 + 11 * (i : Int) + 1 + 1 + 1 + j + 1) (by omega) (by omega)
      simp -implicitDefEqProofs [h3', hil', g0, g1, h2]
      refine (markTextI _ (1 + 11 * i + 3 + j) (by omega) (by omega)).call ?_
      simp -implicitDefEqProofs [h3', hil', g0, g1, h2]
      refine ⟨by omega, ?_⟩
      have e9 := row_set t j (mtB (1 + 11 * i + 3 + j)) (by omega)
      refine nx (j + 1, ds.set i { t with bl := t.bl.set j (mtB (1 + 11 * i + 3 + j)) }) [(1000, 1000)] ?_ (by simp only; omega) (h4 := ?_)
      · refine ⟨by simp only; omega, by simp [hd], ?_, ?_, { t with bl := t.bl.set j (mtB (1 + 11 * i + 3 + j)) }, by simp [hil'], g2, g3, g4, ?_⟩
        · intro b hbm
          rcases List.mem_or_eq_of_mem_set hbm with h | rfl
          · exact hb' b h
          · simpa using t8
        · intro q hq
          simp only
          rw [List.getElem?_set_ne (by omega)]
          exact hm' q hq
        · intro q hq
          simp only at hq ⊢
          by_cases hqj : q = j
          · subst hqj
            simp [t8, h3]
          · rw [List.getElem?_set_ne (by omega)]
            exact g5 q (by omega)
      · have e10 : 1 + 11 * (i : Int) + 1 + 1 + 1 + j + 1 = 1 + 11 * (i : Int) + 1 + 1 + 1 + (j + 1) := by omega
        simp [obOf, e6, e7, e9]
        exact ⟨by rw [e10], by simp [bkOb, List.map_set]⟩
    · have : j = 8 := by omega
      subst this
      simp -implicitDefEqProofs
      have ht : t = mkRow (1 + 11 * i) := by
        obtain ⟨tn, tk, tf, tb⟩ := t
        simp only at g2 g3 g4 g5 t8
        have : tb = (List.range 8).map fun q => mtB (1 + 11 * i + 3 + q) := by
          refine List.ext_getElem? fun q => ?_
          by_cases hq : q < 8
          · rw [g5 q hq]
            simp [hq]
          · rw [List.getElem?_eq_none (by omega), List.getElem?_eq_none (by simp; omega)]
        subst this
        simp only [mkRow, BS.mk.injEq]
        exact ⟨g2, by omega, g4, trivial⟩
      have e8 := i64w ((i : Int) + 1) (by omega) (by omega)
      refine nx (i + 1, ds) [(1000, 1000)] ⟨by omega, hd, hb', ?_⟩ (by simp only; omega) (h4 := ?_)
      · intro j hj
        by_cases hji : j = i
        · subst hji
          exact ht ▸ g1
        · exact hm' j (by simp only at hj; omega)
      · have e10 : 1 + 11 * (i : Int) + 1 + 1 + 1 + 8 = 1 + 11 * ((i : Int) + 1) := by omega
        simp [obOf, e8]
        rw [e10]
  · have : i = n := by omega
    subst this
    have hcs : cs = mkL cs.length := by
      refine List.ext_getElem? fun q => ?_
      by_cases hq : q < cs.length
      · rw [hm q (by omega)]
        simp [mkL, hq]
      · rw [List.getElem?_eq_none (by omega), List.getElem?_eq_none (by simp [mkL]; omega)]
    simp -implicitDefEqProofs
    rw [hc] at hcs
    exact congrArg bkOb hcs
theorem markBookC (bs : List BS) (hl : bs.length ≤ 2000000) (hB : ∀ b ∈ bs, b.bl.length = 8) :
    ACall prog 16 [.agg [.sl 1000 0 bs.length], .int .i64 1] [(1000, bkOb bs)] (fun r L' => r = .int .i64 (1 + 11 * (bs.length : Int)) ∧ L' = [(1000, bkOb (mkL bs.length))]) := by
  refine acx func16 [] ntmps16 rfl rfl rfl ?_
  simp -implicitDefEqProofs
  refine callA_wh [(1000, .whole 1000)] (by kernel_rfl) (markSetsC bs hl hB) (by simp) (by simp) ⟨⟨bkOb bs, by simp, rfl, rowsMt_cl rfl (clR_bk bs)⟩, trivial⟩ (by simp) (by simp) ?_
  rintro r L' ⟨rfl, rfl⟩
  refine ⟨[], ⟨by simp, by simp, by simp, by simp, by simp⟩, ?_⟩
  simp only [afterS]
  simp -implicitDefEqProofs
theorem mkL_at {n i : Nat} (h : i < n) : (mkL n)[i]? = some (mkRow (1 + 11 * i)) := by simp [mkL, h]
theorem mkL_len (n : Nat) : (mkL n).length = n := by simp [mkL]
@[simp] theorem mkRow_n (k : Nat) : (mkRow k).name = mtB k := rfl
@[simp] theorem mkRow_k (k : Nat) : (mkRow k).kind = (k : Int) + 1 := by simp [mkRow]
@[simp] theorem mkRow_f (k : Nat) : (mkRow k).frm = mtB (k + 2) := rfl
@[simp] theorem mkRow_l (k : Nat) : (mkRow k).bl.length = 8 := by simp [mkRow]
@[simp] theorem mkRow_g (k j : Nat) (h : j < (mkRow k).bl.length) : (mkRow k).bl[j] = mtB (k + 3 + j) := by simp [mkRow]
theorem mkRow_row (k : Nat) : (mkRow k).row = .str (mtB k) :: .int .i64 ((k : Int) + 1) :: .str (mtB (k + 2)) :: (List.range 8).map fun j => AV.str (mtB (k + 3 + j)) := by
  simp [mkRow, BS.row]
theorem mkRow_at (k j : Nat) (h : j < 8) : (mkRow k).row[3 + j]? = some (.str (mtB (k + 3 + j))) := by
  rw [mkRow_row, show 3 + j = j + 1 + 1 + 1 by omega]
  simp [h]
theorem heldSetsC (n : Nat) (hl : n ≤ 2000000) : CV prog 46 [.lst 11 ((mkL n).map BS.row), .int .i64 1] (.int .i64 (1 + 11 * (n : Int))) := by
  have hn := mkL_len n
  refine cvx func46 [] ntmps46 rfl rfl rfl ?_
  simp -implicitDefEqProofs [hn]
  refine ev_lp (X := Nat) [0, 1, 5] [] (fun x => [(5, .int .i64 x), (1, .int .i64 (1 + 11 * (x : Int)))]) (fun x => []) (fun x => n - x) (fun x => x ≤ n) 0 (by omega) ?_
  rintro i hi
  by_cases h2 : i < n
  · have h2' : (i : Int) < n := by omega
    have f1 := mkL_at h2
    have hil : i < (mkL n).length := by omega
    have f0 : (mkL n)[i] = mkRow (1 + 11 * i) := (List.getElem?_eq_some_iff.1 f1).2
    have e1 := i64w (1 + 11 * (i : Int) + 1) (by omega) (by omega)
    have e2 := i64w (1 + 11 * (i : Int) + 1 + 1) (by omega) (by omega)
    have e3 := i64w (1 + 11 * (i : Int) + 1 + 1 + 1) (by omega) (by omega)
    have hr0 : 0 < (mkRow (1 + 11 * i)).row.length := by simp [mkRow_row]
    have hr1 : (mkRow (1 + 11 * i)).row.length = 11 := by simp [mkRow_row]
    simp -implicitDefEqProofs [h2', h2, hil, hn, f0, f1, hr1]
    refine (markTextI _ (1 + 11 * i) (by omega) (by omega)).call ?_
    simp -implicitDefEqProofs [h2', h2, hil, hn, f0, f1, e1, e2, e3, mkRow_row]
    refine (markTextI _ (1 + 11 * i + 2) (by omega) (by omega)).call ?_
    simp -implicitDefEqProofs [h2', h2, hil, hn, f0, f1, e1, e2, e3, mkRow_row]
    refine ev_lp (X := Nat) [0, 1, 5, 6] [] (fun x => [(6, .int .i64 x), (1, .int .i64 (1 + 11 * (i : Int) + 1 + 1 + 1 + (x : Int)))]) (fun x => []) (fun x => 8 - x) (fun x => x ≤ 8) 0 (by omega) ?_
    rintro j hj
    by_cases h3 : j < 8
    · have h3' : (j : Int) < 8 := by omega
      have e6 := i64w ((j : Int) + 1) (by omega) (by omega)
      have e7 := i64w (1 + 11 * (i : Int) + 1 + 1 + 1 + j + 1) (by omega) (by omega)
      have f2 := mkRow_at (1 + 11 * i) j h3
      simp -implicitDefEqProofs [h3', h3, h2, hn, f0, f1, f2, hr1]
      refine ⟨by omega, ?_⟩
      refine (markTextI _ (1 + 11 * i + 3 + j) (by omega) (by omega)).call ?_
      simp -implicitDefEqProofs [h3', h3, h2, hn, f0, f1, f2, hr1]
      have e10 : 1 + 11 * (i : Int) + 1 + 1 + 1 + j + 1 = 1 + 11 * (i : Int) + 1 + 1 + 1 + (j + 1) := by omega
      refine nx (j + 1) [] (by omega) (h4 := ?_)
      simp [e6, e7]
      rw [e10]
    · have : j = 8 := by omega
      subst this
      have e8 := i64w ((i : Int) + 1) (by omega) (by omega)
      have e10 : 1 + 11 * (i : Int) + 1 + 1 + 1 + 8 = 1 + 11 * ((i : Int) + 1) := by omega
      simp -implicitDefEqProofs
      refine nx (i + 1) [] (by omega) (h4 := ?_)
      simp [e8]
      rw [e10]
  · have : i = n := by omega
    subst this
    simp -implicitDefEqProofs [hn]
theorem heldBookC (n : Nat) (hl : n ≤ 2000000) : CV prog 17 [bk (mkL n), .int .i64 1] (.int .i64 (1 + 11 * (n : Int))) := by
  have h0 : ¬ (1 + 11 * (n : Int)) < 0 := by omega
  refine cvx func17 [] ntmps17 rfl rfl rfl ?_ (hca := by simp [bk])
  simp -implicitDefEqProofs [bk]
  refine (heldSetsC n hl).call ?_
  simp -implicitDefEqProofs [h0]
attribute [simp] clL_strs
@[simp] theorem renL_strs (ρ : Nat → Option Plc) (l : List (List UInt8)) : renL ρ (l.map AV.str) = l.map AV.str := by
  induction l with
  | nil => rfl
  | cons a r ih => simp [ih]
def BsG (b : BS) : Prop := i64G b.kind ∧ b.bl.length = 8 ∧ b.name.length ≤ maxLen ∧ b.frm.length ≤ maxLen ∧ ∀ t ∈ b.bl, t.length ≤ maxLen
def szSs : List (List UInt8) → Int → Int
  | [], l => l
  | t :: r, l => if l - t.length < 0 then -1 else szSs r (l - t.length)
theorem szSs_le : ∀ (ts : List (List UInt8)) (l : Int), 0 ≤ l → szSs ts l ≤ l ∧ -1 ≤ szSs ts l ∧ (0 ≤ szSs ts l → ∀ t ∈ ts, (t.length : Int) ≤ l)
  | [], l, h => by simp [szSs]; omega
  | t :: r, l, h => by
    unfold szSs
    split
    · refine ⟨by omega, by omega, fun h' => by omega⟩
    · obtain ⟨h1, h2, h3⟩ := szSs_le r (l - t.length) (by omega)
      refine ⟨by omega, h2, fun h' t' ht => ?_⟩
      rcases List.mem_cons.1 ht with rfl | ht
      · omega
      · have := h3 h' t' ht
        omega
theorem szA8C (ts : List (List UInt8)) (l : Int) (h8 : ts.length = 8) (hm : ∀ t ∈ ts, t.length ≤ maxLen) (hl : 0 ≤ l ∧ l ≤ 1048576) : CV prog 137 [.agg (ts.map .str), .int .i64 l] (.int .i64 (szSs ts l)) := by
  obtain ⟨R, hR⟩ : ∃ R, szSs ts l = R := ⟨_, rfl⟩
  rw [hR]
  have hml : maxLen = 9223372036854775807 := rfl
  refine cvx func137 [] ntmps137 rfl rfl rfl ?_ (hca := by simp)
  simp -implicitDefEqProofs [h8]
  refine ev_lp (X := Nat × Int) [1, 2, 5] [(2, 2)] (fun x => [(5, .int .i64 x.1), (1, .int .i64 x.2)]) (fun _ => []) (fun x => 8 - x.1) (fun x => x.1 ≤ 8 ∧ 0 ≤ x.2 ∧ x.2 ≤ 1048576 ∧ szSs (ts.drop x.1) x.2 = R) (0, l) (by simp [hR, hl]) ?_
  rintro ⟨i, k⟩ ⟨hi, hk0, hk, hd⟩
  simp only at hi hk0 hk hd
  cases hr : ts.drop i with
  | nil =>
    have := dropn hr
    rw [hr] at hd
    have hie : i = 8 := by omega
    simp [szSs] at hd
    simp -implicitDefEqProofs [hie, hd]
  | cons t r =>
    obtain ⟨h1, e0, e1, h3⟩ := dropc hr
    rw [hr, szSs] at hd
    have := hm t (List.mem_of_getElem? e1)
    have e2 := i64w ((i : Int) + 1) (by omega) (by omega)
    have e3 := i64w (k - (t.length : Int)) (by omega) (by omega)
    have h1' : (i : Int) < 8 := by omega
    simp -implicitDefEqProofs [h1', h1, e0, e1, e2, e3, h8, obOf]
    repeat' first
      | with_reducible intro _
      | with_reducible refine And.intro ?_ ?_
    all_goals first
      | exact nx (i + 1, k - t.length) [(2, 2)] (by simp only; grind) (h4 := by simp [obOf, e2, e3])
      | grind
theorem szSetC (b : BS) (l : Int) (hb : BsG b) (hl : 0 ≤ l ∧ l ≤ 1048576) : CV prog 83 [.agg b.row, .int .i64 l] (.int .i64 (szSs (b.name :: b.frm :: b.bl) l)) := by
  obtain ⟨R, hR⟩ : ∃ R, szSs (b.name :: b.frm :: b.bl) l = R := ⟨_, rfl⟩
  rw [hR]
  have hml : maxLen = 9223372036854775807 := rfl
  obtain ⟨_, b8, b1, b2, b3⟩ := hb
  have e1 := i64w (l - (b.name.length : Int)) (by omega) (by omega)
  have hrl : b.row.length = 11 := row_len _ b8
  have ht : List.take 8 (List.map AV.str b.bl) = List.map AV.str b.bl := List.take_of_length_le (by simp; omega)
  refine cvx func83 [] ntmps83 rfl rfl rfl ?_ (hca := by simp)
  unfold szSs at hR
  simp -implicitDefEqProofs [e1, hrl]
  by_cases h1 : l < b.name.length
  · rw [if_pos (by omega)] at hR
    simp -implicitDefEqProofs [h1, hR]
    intro h
    omega
  · rw [if_neg (by omega)] at hR
    have e2 := i64w (l - b.name.length - (b.frm.length : Int)) (by omega) (by omega)
    unfold szSs at hR
    simp -implicitDefEqProofs [h1, e2]
    by_cases h2 : l - b.name.length < b.frm.length
    · rw [if_pos (by omega)] at hR
      simp -implicitDefEqProofs [h2, hR]
      intros
      omega
    · rw [if_neg (by omega)] at hR
      have hR' := szSs_le b.bl (l - b.name.length - b.frm.length) (by omega)
      rw [hR] at hR'
      simp -implicitDefEqProofs [h2, ht]
      refine ⟨fun h => by omega, fun _ => ⟨fun h => by omega, fun _ => ?_⟩⟩
      refine (szA8C b.bl (l - b.name.length - b.frm.length) b8 b3 ⟨by omega, by omega⟩).call ?_
      simp -implicitDefEqProofs [hR]
      intros
      omega
def szBsL : List BS → Int → Int
  | [], l => l
  | b :: r, l => if szSs (b.name :: b.frm :: b.bl) l < 0 then -1 else szBsL r (szSs (b.name :: b.frm :: b.bl) l)
def BkS (bs : List BS) : Prop := bs.length ≤ 1048576 ∧ ∀ b ∈ bs, b.bl.length = 8 ∧ b.name.length ≤ 1048576 ∧ b.frm.length ≤ 1048576
theorem szBsL_le : ∀ (bs : List BS) (l : Int), 0 ≤ l ∧ l ≤ 1048576 → szBsL bs l ≤ l ∧ -1 ≤ szBsL bs l ∧ (0 ≤ szBsL bs l → ∀ b ∈ bs, b.name.length ≤ 1048576 ∧ b.frm.length ≤ 1048576)
  | [], l, h => by simp [szBsL]; omega
  | b :: r, l, h => by
    unfold szBsL
    obtain ⟨g1, g2, g3⟩ := szSs_le (b.name :: b.frm :: b.bl) l h.1
    split
    · exact ⟨by omega, by omega, fun h' => by omega⟩
    · obtain ⟨h1, h2, h3⟩ := szBsL_le r (szSs (b.name :: b.frm :: b.bl) l) (by omega)
      refine ⟨by omega, h2, fun h' t' ht => ?_⟩
      rcases List.mem_cons.1 ht with rfl | ht
      · have h4 := g3 (by omega) t'.name (by simp)
        have h5 := g3 (by omega) t'.frm (by simp)
        omega
      · exact h3 h' t' ht
theorem szSetsC' (bs : List BS) (l : Int) (hb : ∀ b ∈ bs, BsG b) (hbl : bs.length ≤ maxLen) (hl : 0 ≤ l ∧ l ≤ 1048576) : CV prog 36 [.lst 11 (bs.map BS.row), .int .i64 l] (.int .i64 (if l - bs.length < 0 then -1 else szBsL bs (l - bs.length))) := by
  have hml : maxLen = 9223372036854775807 := rfl
  have e1 := i64w (l - (bs.length : Int)) (by omega) (by omega)
  refine cvx func36 [] ntmps36 rfl rfl rfl ?_
  by_cases h0 : l - bs.length < 0
  · rw [if_pos h0]
    simp -implicitDefEqProofs [e1]
    intro h
    omega
  rw [if_neg h0]
  obtain ⟨R, hR⟩ : ∃ R, szBsL bs (l - bs.length) = R := ⟨_, rfl⟩
  rw [hR]
  have h0' : ¬ (l : Int) < bs.length := by omega
  simp -implicitDefEqProofs [e1, h0']
  refine ⟨fun h => by omega, fun _ => ?_⟩
  refine ev_lp (X := Nat × Int) [0, 1, 5] [] (fun x => [(5, .int .i64 x.1), (1, .int .i64 x.2)]) (fun _ => []) (fun x => bs.length - x.1) (fun x => x.1 ≤ bs.length ∧ 0 ≤ x.2 ∧ x.2 ≤ 1048576 ∧ szBsL (bs.drop x.1) x.2 = R) (0, l - bs.length) (by simp [hR]; omega) ?_
  rintro ⟨i, k⟩ ⟨hi, hk0, hk, hd⟩
  simp only at hi hk0 hk hd
  cases hr : bs.drop i with
  | nil =>
    have := dropn hr
    rw [hr] at hd
    have hie : i = bs.length := by omega
    simp [szBsL] at hd
    simp -implicitDefEqProofs [hie, hd]
  | cons b r =>
    obtain ⟨h1, f0, f1, h3⟩ := dropc hr
    rw [hr, szBsL] at hd
    have hb1 := hb b (List.mem_of_getElem? f1)
    have hz := szSs_le (b.name :: b.frm :: b.bl) k hk0
    have e2 := i64w ((i : Int) + 1) (by omega) (by omega)
    have hrl : b.row.length = 11 := row_len _ hb1.2.1
    have ht : List.take 11 b.row = b.row := List.take_of_length_le (by omega)
    simp -implicitDefEqProofs [h1, f0, f1, e2, hrl, ht]
    refine (szSetC b k hb1 ⟨hk0, hk⟩).call ?_
    simp -implicitDefEqProofs
    repeat' first
      | with_reducible intro _
      | with_reducible refine And.intro ?_ ?_
    all_goals first
      | exact nx (i + 1, szSs (b.name :: b.frm :: b.bl) k) [] (by simp only; grind) (h4 := by simp [e2])
      | grind
theorem szBookC (bs : List BS) (hb : ∀ b ∈ bs, BsG b) (hbl : bs.length ≤ maxLen) : ∃ z : Int, z ≤ 1048576 ∧ (0 ≤ z → BkS bs) ∧ CV prog 11 [bk bs, .int .i64 1048576] (.int .i64 z) := by
  have hs := szSetsC' bs 1048576 hb hbl ⟨by omega, by omega⟩
  obtain ⟨z, hz⟩ : ∃ z, (if 1048576 - (bs.length : Int) < 0 then -1 else szBsL bs (1048576 - (bs.length : Int))) = z := ⟨_, rfl⟩
  rw [hz] at hs
  have hzz : z ≤ 1048576 ∧ -1 ≤ z ∧ (0 ≤ z → BkS bs) := by
    split at hz
    · exact ⟨by omega, by omega, fun h => by omega⟩
    · obtain ⟨h1, h2, h3⟩ := szBsL_le bs (1048576 - (bs.length : Int)) ⟨by omega, by omega⟩
      refine ⟨by omega, by omega, fun h => ⟨by omega, fun b hbm => ⟨(hb b hbm).2.1, h3 (by omega) b hbm⟩⟩⟩
  refine ⟨z, hzz.1, hzz.2.2, ?_⟩
  refine cvx func11 [] ntmps11 rfl rfl rfl ?_ (hca := by simp [bk])
  simp -implicitDefEqProofs [bk]
  refine hs.call ?_
  simp -implicitDefEqProofs
  intros
  omega
def opS (o : BO) : Prop := o.a.length ≤ 1048576 ∧ o.b.length ≤ 1048576
theorem setS (cs : List (List UInt8)) (i : Nat) (x : List UInt8) (h : i < cs.length) : List.take i (cs.map AV.str) ++ AV.str x :: List.drop (i + 1) (cs.map AV.str) = (cs.set i x).map AV.str := by
  rw [List.set_eq_take_append_cons_drop, if_pos h]
  simp
@[simp] theorem renL_setS (ρ : Nat → Option Plc) (l : List (List UInt8)) (i : Nat) (b : List UInt8) : renL ρ ((l.map AV.str).set i (AV.str b)) = (l.map AV.str).set i (AV.str b) := by
  rw [← List.map_set]
  exact renL_strs ρ _
theorem toSA8C (ts : List (List UInt8)) (h8 : ts.length = 8) : CV prog 141 [.agg (ts.map .str)] (.agg (ts.map .str)) := by
  refine cvx func141 [] ntmps141 rfl rfl rfl ?_
  simp -implicitDefEqProofs [h8]
  refine ev_lp (X := Nat × List (List UInt8)) [1, 2, 3, 4] [(1, 1), (2, 2), (3, 3)] (fun x => [(4, .int .i64 x.1)]) (fun x => [(3, ⟨8, [x.2.map .str]⟩)]) (fun x => 8 - x.1)
    (fun x => x.1 ≤ 8 ∧ x.2.length = 8 ∧ ∀ j, j < x.1 → x.2[j]? = ts[j]?) (0, zbl) ⟨by omega, rfl, by omega⟩ ?_ (he := by simp [obOf, zbl])
  rintro ⟨i, cs⟩ ⟨hi, hc, hm⟩
  simp only at hi hc hm
  by_cases h2 : i < 8
  · obtain ⟨b, f1⟩ : ∃ b, ts[i]? = some b := ⟨_, List.getElem?_eq_getElem (by omega)⟩
    have h2' : (i : Int) < 8 := by omega
    have hil : i < ts.length := by omega
    have f0 : ts[i] = b := (List.getElem?_eq_some_iff.1 f1).2
    have e1 := i64w ((i : Int) + 1) (by omega) (by omega)
    have e2 := setS cs i b (by omega)
    simp -implicitDefEqProofs [h2', h2, hil, f0, f1, obOf, h8, hc]
    refine ⟨by omega, ?_⟩
    refine nx (i + 1, cs.set i b) [(1, 1), (2, 2), (3, 3)] ⟨by simp only; omega, by simp [hc], ?_⟩ (by simp only; omega) (h4 := by simp [obOf, e1, e2])
    intro j hj
    simp only at hj ⊢
    by_cases hji : j = i
    · subst hji
      simp [hc, h2, f0, hil]
    · rw [List.getElem?_set_ne (by omega)]
      exact hm j (by omega)
  · have : i = 8 := by omega
    subst this
    have hcs : cs = ts := by
      refine List.ext_getElem? fun q => ?_
      by_cases hq : q < 8
      · exact hm q hq
      · rw [List.getElem?_eq_none (by omega), List.getElem?_eq_none (by omega)]
    subst hcs
    have ht : List.take 8 (List.map AV.str cs) = List.map AV.str cs := List.take_of_length_le (by simp; omega)
    simp -implicitDefEqProofs [obOf, h8, ht]
theorem toSetC (b : BS) (h8 : b.bl.length = 8) : CV prog 91 [.agg b.row] (.agg b.row) := by
  have hrl : b.row.length = 11 := row_len _ h8
  have ht : List.take 8 (List.map AV.str b.bl) = List.map AV.str b.bl := List.take_of_length_le (by simp; omega)
  refine cvx func91 [] ntmps91 rfl rfl rfl ?_ (hca := by simp) (hcv := by simp)
  simp -implicitDefEqProofs [hrl, ht]
  refine (toSA8C b.bl h8).call ?_
  simp -implicitDefEqProofs [hrl, ht, h8]
  rfl
theorem oneA_bs (b : BS) : ∀ x ∈ b.row, oneA x = true := by simp [BS.row]
theorem toSetsC (bs : List BS) (hl : bs.length ≤ 2000000) (hB : ∀ b ∈ bs, b.bl.length = 8) : ACall prog 41 [.lst 11 (bs.map BS.row)] [] (fun r L' => r = .sl 900 0 bs.length ∧ L' = [(900, bkOb bs)]) := by
  obtain ⟨n, hn⟩ : ∃ n, bs.length = n := ⟨_, rfl⟩
  rw [hn] at hl ⊢
  refine acx func41 [] ntmps41 rfl rfl rfl ?_
  simp -implicitDefEqProofs [hn]
  refine ⟨by omega, ?_⟩
  refine ev_lp (X := Nat × List BS) [0, 3, 4] [(7, 900)] (fun x => [(4, .int .i64 x.1)]) (fun x => [(900, bkOb x.2)]) (fun x => n - x.1)
    (fun x => x.1 ≤ n ∧ x.2.length = n ∧ (∀ b ∈ x.2, b.bl.length = 8) ∧ ∀ j, j < x.1 → x.2[j]? = bs[j]?) (0, List.replicate n ⟨[], 0, [], zbl⟩) ⟨by omega, by simp, by simp [zbl], by omega⟩ ?_ (he := by simp [obOf, bkOb, BS.row, zbl])
  rintro ⟨i, cs⟩ ⟨hi, hc, hb, hm⟩
  simp only at hi hc hb hm
  by_cases h2 : i < n
  · obtain ⟨b, f1⟩ : ∃ b, bs[i]? = some b := ⟨_, List.getElem?_eq_getElem (by omega)⟩
    have h2' : (i : Int) < n := by omega
    have hil : i < cs.length := by omega
    have hil' : i < bs.length := by omega
    have f0 : bs[i] = b := (List.getElem?_eq_some_iff.1 f1).2
    have b8 := hB b (List.mem_of_getElem? f1)
    have hrl : b.row.length = 11 := row_len _ b8
    have ht : List.take 11 b.row = b.row := List.take_of_length_le (by omega)
    have hc8 : cs[i].row.length = 11 := row_len _ (hb _ (List.getElem_mem _))
    have e1 := i64w ((i : Int) + 1) (by omega) (by omega)
    simp -implicitDefEqProofs [h2', h2, hil, hil', hn, f0, f1, hrl, ht]
    refine (toSetC b b8).call ?_
    simp -implicitDefEqProofs [h2', h2, hil, hil', hn, f0, f1, hrl, ht, hc8]
    refine ⟨oneA_bs b, ?_⟩
    refine nx (i + 1, cs.set i b) [(900, 900)] ⟨by simp only; omega, by simp [hc], ?_, ?_⟩ (by simp only; omega) (h4 := ?_)
    · intro c hcm
      rcases List.mem_or_eq_of_mem_set hcm with h | rfl
      · exact hb c h
      · exact b8
    · intro j hj
      simp only at hj ⊢
      by_cases hji : j = i
      · subst hji
        simp [hil, f0, hil']
      · rw [List.getElem?_set_ne (by omega)]
        exact hm j (by omega)
    · have hd : List.drop 11 cs[i].row = [] := List.drop_eq_nil_of_le (by omega)
      simp [obOf, e1, hd, bkOb, List.map_set]
  · have : i = n := by omega
    subst this
    have hcs : cs = bs := by
      refine List.ext_getElem? fun q => ?_
      by_cases hq : q < i
      · exact hm q hq
      · rw [List.getElem?_eq_none (by omega), List.getElem?_eq_none (by omega)]
    subst hcs
    simp -implicitDefEqProofs [hn]
theorem eqSA8C (s t : List (List UInt8)) (h8 : s.length = 8) (g8 : t.length = 8) : CV prog 143 [.agg (s.map .str), .agg (t.map .str)] (.bool (decide (s = t))) := by
  obtain ⟨R, hR⟩ : ∃ R, decide (s = t) = R := ⟨_, rfl⟩
  rw [hR]
  refine cvx func143 [(4, [⟨0, [], [], [], []⟩, ⟨1, [], [], [], []⟩, ⟨2, [2], [], [], []⟩, ⟨3, [], [2], [], []⟩, ⟨4, [], [2], [], []⟩, ⟨5, [3], [2], [], []⟩, ⟨6, [], [], [], []⟩])] ntmps143 rfl rfl rfl ?_
  simp -implicitDefEqProofs [h8, g8]
  refine ev_lp (X := Nat) [2, 3, 5] [(2, 2), (3, 3)] (fun x => [(5, .int .i64 x)]) (fun x => []) (fun x => 8 - x) (fun x => x ≤ 8 ∧ decide (s.drop x = t.drop x) = R) 0 (by simp [hR]) ?_
  rintro i ⟨hi, hd⟩
  by_cases h2 : i < 8
  · obtain ⟨b, f1⟩ : ∃ b, s[i]? = some b := ⟨_, List.getElem?_eq_getElem (by omega)⟩
    obtain ⟨c, g1⟩ : ∃ c, t[i]? = some c := ⟨_, List.getElem?_eq_getElem (by omega)⟩
    rw [dropAt f1, dropAt g1] at hd
    have h2' : (i : Int) < 8 := by omega
    have hil : i < s.length := by omega
    have hjl : i < t.length := by omega
    have f0 : s[i] = b := (List.getElem?_eq_some_iff.1 f1).2
    have g0 : t[i] = c := (List.getElem?_eq_some_iff.1 g1).2
    have e1 := i64w ((i : Int) + 1) (by omega) (by omega)
    simp -implicitDefEqProofs [h2', h2, hil, hjl, f0, f1, g0, g1, obOf, h8, g8]
    by_cases hbc : b = c
    · subst hbc
      simp -implicitDefEqProofs
      exact nx (i + 1) [(2, 2), (3, 3)] (by simp only [List.cons.injEq, true_and] at hd; exact ⟨by omega, hd⟩) (h4 := by simp [obOf, e1])
    · simp -implicitDefEqProofs [hbc]
      grind
  · have : i = 8 := by omega
    subst this
    rw [List.drop_eq_nil_of_le (by omega), List.drop_eq_nil_of_le (by omega)] at hd
    simp at hd
    simp -implicitDefEqProofs [hd]
theorem eqSetC (a b : BS) (h8 : a.bl.length = 8) (g8 : b.bl.length = 8) : CV prog 96 [.agg a.row, .agg b.row] (.bool (decide (a = b))) := by
  obtain ⟨R, hR⟩ : ∃ R, decide (a = b) = R := ⟨_, rfl⟩
  rw [hR]
  have hrl : a.row.length = 11 := row_len _ h8
  have gl : b.row.length = 11 := row_len _ g8
  have ht : List.take 8 (List.map AV.str a.bl) = List.map AV.str a.bl := List.take_of_length_le (by simp; omega)
  have gt : List.take 8 (List.map AV.str b.bl) = List.map AV.str b.bl := List.take_of_length_le (by simp; omega)
  obtain ⟨an, ak, af, ab⟩ := a
  obtain ⟨bn, bK, bf, bb⟩ := b
  dsimp only at h8 g8 ht gt
  refine cvx func96 [] ntmps96 rfl rfl rfl ?_ (hca := by simp)
  simp -implicitDefEqProofs [hrl, gl, ht, gt, h8, g8]
  simp only [BS.mk.injEq] at hR
  repeat' first
    | (refine (eqSA8C ab bb h8 g8).call ?_; simp -implicitDefEqProofs)
    | with_reducible intro _
    | with_reducible refine And.intro ?_ ?_
  all_goals grind
theorem eqSetsC (cs bs : List BS) (hl : cs.length ≤ 2000000) (hA : ∀ b ∈ cs, b.bl.length = 8) (hB : ∀ b ∈ bs, b.bl.length = 8) : CV prog 44 [.lst 11 (cs.map BS.row), .lst 11 (bs.map BS.row)] (.bool (decide (cs = bs))) := by
  obtain ⟨R, hR⟩ : ∃ R, decide (cs = bs) = R := ⟨_, rfl⟩
  rw [hR]
  refine cvx func44 [] ntmps44 rfl rfl rfl ?_
  by_cases hlen : cs.length = bs.length
  · simp -implicitDefEqProofs [hlen]
    refine ev_lp (X := Nat) [0, 1, 5] [] (fun x => [(5, .int .i64 x)]) (fun x => []) (fun x => bs.length - x) (fun x => x ≤ bs.length ∧ decide (cs.drop x = bs.drop x) = R) 0 (by simp [hR]) ?_
    rintro i ⟨hi, hd⟩
    by_cases h2 : i < bs.length
    · obtain ⟨b, f1⟩ : ∃ b, cs[i]? = some b := ⟨_, List.getElem?_eq_getElem (by omega)⟩
      obtain ⟨c, g1⟩ : ∃ c, bs[i]? = some c := ⟨_, List.getElem?_eq_getElem (by omega)⟩
      rw [dropAt f1, dropAt g1] at hd
      have h2' : (i : Int) < bs.length := by omega
      have hil : i < cs.length := by omega
      have f0 : cs[i] = b := (List.getElem?_eq_some_iff.1 f1).2
      have g0 : bs[i] = c := (List.getElem?_eq_some_iff.1 g1).2
      have e1 := i64w ((i : Int) + 1) (by omega) (by omega)
      have b8 := hA b (List.mem_of_getElem? f1)
      have c8 := hB c (List.mem_of_getElem? g1)
      have hrl : b.row.length = 11 := row_len _ b8
      have gl : c.row.length = 11 := row_len _ c8
      have ht : List.take 11 b.row = b.row := List.take_of_length_le (by omega)
      have gt : List.take 11 c.row = c.row := List.take_of_length_le (by omega)
      simp -implicitDefEqProofs [h2', h2, hil, hlen, f0, f1, g0, g1, hrl, gl, ht, gt]
      refine (eqSetC b c b8 c8).call ?_
      by_cases hbc : b = c
      · subst hbc
        simp -implicitDefEqProofs
        exact nx (i + 1) [] (by simp only [List.cons.injEq, true_and] at hd; exact ⟨by omega, hd⟩) (h4 := by simp [e1])
      · simp -implicitDefEqProofs [hbc]
        grind
    · have : i = bs.length := by omega
      subst this
      rw [List.drop_eq_nil_of_le (by omega), List.drop_eq_nil_of_le (by omega)] at hd
      simp at hd
      simp -implicitDefEqProofs [hd, hlen]
  · have h' : ¬ (cs.length : Int) = bs.length := by omega
    have : R = false := by rw [← hR]; simp; rintro rfl; exact hlen rfl
    simp -implicitDefEqProofs [hlen, h', this]
theorem eqBookC (cs bs : List BS) (hl : cs.length ≤ 2000000) (hA : ∀ b ∈ cs, b.bl.length = 8) (hB : ∀ b ∈ bs, b.bl.length = 8) : CV prog 15 [bk cs, bk bs] (.bool (decide (cs = bs))) := by
  refine cvx func15 [] ntmps15 rfl rfl rfl ?_ (hca := by simp [bk])
  simp -implicitDefEqProofs [bk]
  refine (eqSetsC cs bs hl hA hB).call ?_
  by_cases h : cs = bs
  · simp -implicitDefEqProofs [h]
  · simp -implicitDefEqProofs [h]
theorem toBookO (bs : List BS) (hl : bs.length ≤ 2000000) (hB : ∀ b ∈ bs, b.bl.length = 8) : ACall prog 13 [bk bs] [] (fun r L' => r = .agg [.sl 900 0 bs.length] ∧ L' = [(900, bkOb bs)]) := by
  refine acx func13 [] ntmps13 rfl rfl rfl ?_
  simp -implicitDefEqProofs [bk]
  refine callA_wh [] (by kernel_rfl) (toSetsC bs hl hB) (by simp) (by simp) (by simp) (by simp) (by simp) ?_
  rintro r L' ⟨rfl, rfl⟩
  refine ⟨[(900, 900)], ⟨by simp, by simp, by simp, by simp, by simp⟩, ?_⟩
  simp -implicitDefEqProofs
theorem toBookC (bs : List BS) (hl : bs.length ≤ 2000000) (hB : ∀ b ∈ bs, b.bl.length = 8) : CV prog 13 [bk bs] (bk bs) := by
  refine CV.of_frz (toBookO bs hl hB) ?_ (hca := by simp [bk]) (hcv := by simp [bk])
  rintro r L' ⟨rfl, rfl⟩
  refine ⟨by simp, by simp, by simp, ?_⟩
  simp [frzAll, bk, bkOb]
  exact impA_refl _
theorem phs_tup1 {id sz : Nat} {z : AV} : phs id sz (.tup [.agg [.nils], z]) (.tup [.agg [.sl id 0 0], z]) := phs_tup2 phs_agg1 (phs_refl _ _ _)
theorem noL_bs (b : BS) : noL b.row = true := by simp [BS.row, noL_strs]
structure BK where
  sets : List BS
def BK.row (b : BK) : List AV := [.lst 11 (b.sets.map BS.row)]
def BkW (b : BK) : Prop := (∀ s ∈ b.sets, BsG s) ∧ b.sets.length ≤ maxLen
theorem str_shp {n : Nat} {avs : List AV} (h : Shp prog (n + 1) 9 avs) : ∃ s : List UInt8, s.length ≤ maxLen ∧ avs = [.str s] := shp_string underlying9 h
theorem flat_strs : ∀ l : List (List UInt8), l.flatMap (fun t => [AV.str t]) = l.map AV.str
  | [] => rfl
  | a :: r => by simp [flat_strs r]
theorem bs_shp {n : Nat} {avs : List AV} (h : Shp prog (n + 3) 128 avs) : ∃ s : BS, BsG s ∧ avs = s.row := by
  obtain ⟨a1, b1, rfl, h1, a2, b2, rfl, h2, a3, b3, rfl, h3, a4, b4, rfl, h4, rfl⟩ := shp_struct underlying128 h
  obtain ⟨s1, m1, rfl⟩ := shp_string underlying9 h1
  obtain ⟨z2, g2, rfl⟩ := shp_i64 h2
  obtain ⟨s3, m3, rfl⟩ := shp_string underlying9 h3
  obtain ⟨l, hl, rfl, hg⟩ := arr_ex (fun t : List UInt8 => [.str t]) (fun t => t.length ≤ maxLen) _ (fun r hr => str_shp hr) 8 a4 (shp_array underlying50 h4)
  refine ⟨⟨s1, z2, s3, l⟩, ⟨g2, hl, m1, m3, hg⟩, ?_⟩
  simp only [BS.row, List.append_nil, List.cons_append, List.nil_append, flat_strs]
theorem bk_shp {avs : List AV} (h : Shp prog 8 36 avs) : ∃ b : BK, BkW b ∧ avs = b.row := by
  obtain ⟨a2, b2, rfl, h2, rfl⟩ := shp_struct underlying36 h
  obtain ⟨e2, m2, rfl, k2⟩ := shp_slice underlying34 h2
  obtain ⟨l2, rfl, g2⟩ := rows_ex BS.row BsG e2 fun r hr => bs_shp (k2 r hr)
  have c1 : prog.cellsOf 128 = 11 := by kernel_rfl
  refine ⟨⟨l2⟩, ⟨g2, by simpa using m2⟩, ?_⟩
  rw [c1]
  rfl
end Go.Av.F
end
section
namespace Go.Av.F
open Go Go.Av Go.Proofs Go.Proofs.Tryz
set_option linter.unusedSimpArgs false
set_option linter.unusedVariables false
set_option maxRecDepth 100000
def findB (c : UInt8) : List UInt8 → Int → Int
  | [], _ => -1
  | x :: r, i => if x = c then i else findB c r (i + 1)
theorem findC (s : List UInt8) (c : UInt8) (hs : s.length ≤ maxLen) : CV prog 138 [.str s, .int .u8 (c.toNat : Int)] (.int .i64 (findB c s 0)) := by
  obtain ⟨R, hR⟩ : ∃ R, findB c s 0 = R := ⟨_, rfl⟩
  rw [hR]
  have hml : maxLen = 9223372036854775807 := rfl
  refine cvx func138 [] ntmps138 rfl rfl rfl ?_
  simp -implicitDefEqProofs
  refine ev_lp (X := Nat) [0, 1, 5] [] (fun x => [(5, .int .i64 x)]) (fun _ => []) (fun x => s.length - x) (fun x => x ≤ s.length ∧ findB c (s.drop x) x = R) 0 (by simp [hR]) ?_
  rintro i ⟨hi, hd⟩
  cases hr : s.drop i with
  | nil =>
    have := dropn hr
    rw [hr] at hd
    have hie : i = s.length := by omega
    simp [findB] at hd
    simp -implicitDefEqProofs [hie, hd]
  | cons x r =>
    obtain ⟨h1, e0, e1, h3⟩ := dropc hr
    rw [hr, findB] at hd
    have e2 := i64w ((i : Int) + 1) (by omega) (by omega)
    by_cases hxc : x = c
    · subst hxc
      rw [if_pos rfl] at hd
      simp -implicitDefEqProofs [h1, e0, e1, e2]
      exact hd
    · rw [if_neg hxc] at hd
      have e3 : ¬ ((x.toNat : Int) = c.toNat) := fun h => hxc (UInt8.toNat_inj.1 (by omega))
      simp -implicitDefEqProofs [h1, e0, e1, e2, e3]
      exact nx (i + 1) [] (by simp only [h3]; exact ⟨by omega, by simpa using hd⟩) (h4 := by simp [e2])
def sumB : List UInt8 → Nat → Nat
  | [], n => n
  | x :: r, n => sumB r ((n * 257 + x.toNat + 1) % 65521)
theorem ssumC (s : List UInt8) (hs : s.length ≤ maxLen) : CV prog 109 [.str s] (.int .i64 (sumB s (1 + s.length % 997) : Nat)) := by
  obtain ⟨R, hR⟩ : ∃ R, sumB s (1 + s.length % 997) = R := ⟨_, rfl⟩
  rw [hR]
  have hml : maxLen = 9223372036854775807 := rfl
  have t1 : (s.length : Int).tmod 997 = (s.length : Int) % 997 := Int.tmod_eq_emod_of_nonneg (by omega)
  have w1 := i64w (1 + (s.length : Int) % 997) (by omega) (by omega)
  refine cvx func109 [] ntmps109 rfl rfl rfl ?_
  simp -implicitDefEqProofs [t1, w1]
  refine ev_lp (X := Nat × Nat) [0, 3, 4] [] (fun x => [(4, .int .i64 x.1), (3, .int .i64 x.2)]) (fun _ => []) (fun x => s.length - x.1) (fun x => x.1 ≤ s.length ∧ x.2 < 65521 ∧ sumB (s.drop x.1) x.2 = R) (0, 1 + s.length % 997) (by simp [hR]; omega) ?_
  rintro ⟨i, n⟩ ⟨hi, hn, hd⟩
  simp only at hi hn hd
  cases hr : s.drop i with
  | nil =>
    have := dropn hr
    rw [hr] at hd
    have hie : i = s.length := by omega
    simp [sumB] at hd
    simp -implicitDefEqProofs [hie, hd]
  | cons x r =>
    obtain ⟨h1, e0, e1, h3⟩ := dropc hr
    rw [hr, sumB] at hd
    have e2 := i64w ((i : Int) + 1) (by omega) (by omega)
    have hx := x.toNat_lt
    have w2 := i64w ((n : Int) * 257) (by omega) (by omega)
    have w3 := i64w ((n : Int) * 257 + x.toNat) (by omega) (by omega)
    have w4 := i64w ((n : Int) * 257 + x.toNat + 1) (by omega) (by omega)
    have w6 := i64w (x.toNat : Int) (by omega) (by omega)
    have t2 : ((n : Int) * 257 + x.toNat + 1).tmod 65521 = ((n : Int) * 257 + x.toNat + 1) % 65521 := Int.tmod_eq_emod_of_nonneg (by omega)
    have w5 := i64w (((n : Int) * 257 + x.toNat + 1) % 65521) (by omega) (by omega)
    simp -implicitDefEqProofs [h1, e0, e1, e2, w2, w3, w4, w5, w6, t2]
    exact nx (i + 1, (n * 257 + x.toNat + 1) % 65521) [] (by simp only [h3]; exact ⟨by omega, by omega, hd⟩) (by simp only; omega) (h4 := by simp [e2, w2, w3, w4, w5, w6, t2])
theorem isumC (s : List UInt8) (hs : s.length ≤ maxLen) : CV prog 107 [.str s] (.int .i64 (sumB s (1 + s.length % 997) : Nat)) := by
  obtain ⟨R, hR⟩ : ∃ R, sumB s (1 + s.length % 997) = R := ⟨_, rfl⟩
  rw [hR]
  have hml : maxLen = 9223372036854775807 := rfl
  have t1 : (s.length : Int).tmod 997 = (s.length : Int) % 997 := Int.tmod_eq_emod_of_nonneg (by omega)
  have w1 := i64w (1 + (s.length : Int) % 997) (by omega) (by omega)
  refine cvx func107 [] ntmps107 rfl rfl rfl ?_
  simp -implicitDefEqProofs [t1, w1]
  refine ev_lp (X := Nat × Nat) [0, 3, 10, 11] [] (fun x => [(11, .int .i64 x.1), (3, .int .i64 x.2)]) (fun _ => []) (fun x => s.length - x.1) (fun x => x.1 ≤ s.length ∧ x.2 < 65521 ∧ sumB (s.drop x.1) x.2 = R) (0, 1 + s.length % 997) (by simp [hR]; omega) ?_
  rintro ⟨i, n⟩ ⟨hi, hn, hd⟩
  simp only at hi hn hd
  cases hr : s.drop i with
  | nil =>
    have := dropn hr
    rw [hr] at hd
    have hie : i = s.length := by omega
    simp [sumB] at hd
    simp -implicitDefEqProofs [hie, hd]
  | cons x r =>
    obtain ⟨h1, e0, e1, h3⟩ := dropc hr
    rw [hr, sumB] at hd
    have e2 := i64w ((i : Int) + 1) (by omega) (by omega)
    have hx := x.toNat_lt
    have w2 := i64w (257 * (n : Int)) (by omega) (by omega)
    have w3 := i64w (257 * (n : Int) + x.toNat) (by omega) (by omega)
    have w4 := i64w (257 * (n : Int) + x.toNat + 1) (by omega) (by omega)
    have w6 := i64w (x.toNat : Int) (by omega) (by omega)
    have t2 : (257 * (n : Int) + x.toNat + 1).tmod 65521 = (257 * (n : Int) + x.toNat + 1) % 65521 := Int.tmod_eq_emod_of_nonneg (by omega)
    have w5 := i64w ((257 * (n : Int) + x.toNat + 1) % 65521) (by omega) (by omega)
    simp -implicitDefEqProofs [h1, e0, e1, e2, w2, w3, w4, w5, w6, t2]
    rw [Nat.mul_comm] at hd
    exact nx (i + 1, (257 * n + x.toNat + 1) % 65521) [] (by simp only [h3]; exact ⟨by omega, by omega, hd⟩) (by simp only; omega) (h4 := by simp [e2, w2, w3, w4, w5, w6, t2])
def ddig (k : Nat) (out : List UInt8) : List UInt8 := if h : k ≤ 9 then UInt8.ofNat (48 + k) :: out else ddig (k / 10) (UInt8.ofNat (48 + k % 10) :: out)
termination_by k
theorem sdecC (k : Nat) (hk : k < 1000000000) : CV prog 66 [.int .i64 k] (.str (ddig k [])) := by
  obtain ⟨R, hR⟩ : ∃ R, ddig k [] = R := ⟨_, rfl⟩
  rw [hR]
  refine cvx func66 [] ntmps66 rfl rfl rfl ?_
  have h0 : ¬ (k : Int) < -9223372036854775807 := by omega
  have h1 : ¬ (k : Int) < 0 := by omega
  simp -implicitDefEqProofs [h0, h1]
  refine ev_lp (X := Nat × List UInt8) [0, 3] [] (fun x => [(0, .int .i64 x.1), (3, .str x.2)]) (fun _ => []) (fun x => x.1) (fun x => x.2.length + x.1 ≤ k ∧ ddig x.1 x.2 = R) (k, []) (by simp [hR]) ?_
  rintro ⟨j, out⟩ ⟨hj, hm⟩
  simp only at hj hm
  rw [ddig] at hm
  by_cases hz : j ≤ 9
  · rw [dif_pos hz] at hm
    have h2 : ¬ (9 : Int) < j := by omega
    have e1 := i64w (48 + (j : Int)) (by omega) (by omega)
    have e2 : byteOf [.int .u8 (IntKind.u8.wrap (48 + (j : Int)))] = UInt8.ofNat (48 + j) := by
      have : IntKind.u8.wrap (48 + (j : Int)) = ((48 + j : Nat) : Int) := by
        show (48 + (j : Int)) % 256 = _
        omega
      rw [this]
      rfl
    simp -implicitDefEqProofs [h2, e1]
    refine ⟨isU8_wrap _, by omega, ?_⟩
    rw [← hm, e2]
  · rw [dif_neg hz] at hm
    have h2 : (9 : Int) < j := by omega
    have e1 := i64w (48 + (j : Int) % 10) (by omega) (by omega)
    have e3 := i64w ((j : Int) / 10) (by omega) (by omega)
    have e2 : byteOf [.int .u8 (IntKind.u8.wrap (48 + (j : Int) % 10))] = UInt8.ofNat (48 + j % 10) := by
      have : IntKind.u8.wrap (48 + (j : Int) % 10) = ((48 + j % 10 : Nat) : Int) := by
        show (48 + (j : Int) % 10) % 256 = _
        omega
      rw [this]
      rfl
    have t1 : (j : Int).tmod 10 = (j : Int) % 10 := Int.tmod_eq_emod_of_nonneg (by omega)
    have t2 : (j : Int).tdiv 10 = (j : Int) / 10 := Int.tdiv_eq_ediv_of_nonneg (by omega)
    simp -implicitDefEqProofs [h2, t1, t2, e1, e3]
    refine ⟨isU8_wrap _, by omega, ?_⟩
    refine nx (j / 10, UInt8.ofNat (48 + j % 10) :: out) [] ?_ ?_ (h4 := ?_)
    · refine ⟨?_, hm⟩
      simp only [List.length_cons]
      omega
    · simp only
      omega
    · simp [t1, t2, e1, e2, e3]
theorem ddig_len (k : Nat) (out : List UInt8) : (ddig k out).length ≤ out.length + k + 1 := by
  induction k using Nat.strongRecOn generalizing out with
  | _ k ih =>
    rw [ddig]
    split
    · simp only [List.length_cons]
      omega
    · have := ih (k / 10) (by omega) (UInt8.ofNat (48 + k % 10) :: out)
      simp only [List.length_cons] at this
      omega
def sealB (s : List UInt8) : List UInt8 := if 400 < s.length then [] else ddig (sumB s (1 + s.length % 997)) [] ++ 58 :: s
theorem sumB_lt : ∀ (s : List UInt8) (n : Nat), n < 65521 → sumB s n < 65521
  | [], n, h => h
  | x :: r, n, h => sumB_lt r _ (Nat.mod_lt _ (by omega))
theorem ssealC (s : List UInt8) (hs : s.length ≤ maxLen) : CV prog 68 [.str s] (.str (sealB s)) := by
  have hlt := sumB_lt s (1 + s.length % 997) (by omega)
  refine cvx func68 [] ntmps68 rfl rfl rfl ?_
  unfold sealB
  by_cases h : 400 < s.length
  · have h' : (400 : Int) < s.length := by omega
    simp -implicitDefEqProofs [h, h']
  · have h' : ¬ (400 : Int) < s.length := by omega
    rw [if_neg h]
    simp -implicitDefEqProofs [h']
    refine (ssumC s hs).call ?_
    simp -implicitDefEqProofs
    refine (sdecC _ (by omega)).call ?_
    simp -implicitDefEqProofs
    have hdl := ddig_len (sumB s (1 + s.length % 997)) []
    simp only [List.length_nil] at hdl
    omega
def openB (s : List UInt8) : List UInt8 × Bool :=
  if findB 58 s 0 < 0 then ([], false) else if sealB (s.drop ((findB 58 s 0).toNat + 1)) = s then (s.drop ((findB 58 s 0).toNat + 1), true) else ([], false)
theorem findB_lt : ∀ (c : UInt8) (s : List UInt8) (i : Int), 0 ≤ i → findB c s i < i + s.length
  | c, [], i, h => by simp [findB]; omega
  | c, x :: r, i, h => by
    unfold findB
    split
    · simp; omega
    · have := findB_lt c r (i + 1) (by omega)
      simp only [List.length_cons]
      omega
theorem findB_ge : ∀ (c : UInt8) (s : List UInt8) (i : Int), 0 ≤ i → findB c s i = -1 ∨ i ≤ findB c s i
  | c, [], i, h => .inl rfl
  | c, x :: r, i, h => by
    unfold findB
    split
    · exact .inr (Int.le_refl _)
    · rcases findB_ge c r (i + 1) (by omega) with h | h
      · exact .inl h
      · exact .inr (by omega)
theorem sopenC (s : List UInt8) (hs : s.length ≤ 1048576) : CV prog 84 [.str s] (.tup [.str (openB s).1, .bool (openB s).2]) := by
  obtain ⟨R, hR⟩ : ∃ R, openB s = R := ⟨_, rfl⟩
  rw [hR]
  have hml : maxLen = 9223372036854775807 := rfl
  have hlt := findB_lt 58 s 0 (by omega)
  have hge := findB_ge 58 s 0 (by omega)
  have fc := findC s 58 (by omega)
  have sc := ssealC (s.drop ((findB 58 s 0).toNat + 1)) (by simp; omega)
  refine cvx func84 [] ntmps84 rfl rfl rfl ?_
  simp -implicitDefEqProofs
  refine fc.call ?_
  unfold openB at hR
  generalize findB 58 s 0 = k at *
  by_cases h : k < 0
  · rw [if_pos h] at hR
    simp -implicitDefEqProofs [h, ← hR]
  · rw [if_neg h] at hR
    have e1 := i64w (k + 1) (by omega) (by omega)
    have d1 : (k + 1).toNat = k.toNat + 1 := by omega
    have d2 : List.take (s.length - (k.toNat + 1)) (List.drop (k.toNat + 1) s) = List.drop (k.toNat + 1) s := List.take_of_length_le (by simp)
    simp -implicitDefEqProofs [h, e1, d1, d2]
    refine ⟨⟨by omega, by omega⟩, ?_⟩
    refine sc.call ?_
    by_cases hs2 : sealB (s.drop (k.toNat + 1)) = s
    · rw [if_pos hs2] at hR
      simp -implicitDefEqProofs [hs2, h, e1, d1, d2, ← hR]
      exact ⟨by omega, by omega⟩
    · rw [if_neg hs2] at hR
      simp -implicitDefEqProofs [hs2, ← hR]
def hexL : List UInt8 := [48, 49, 50, 51, 52, 53, 54, 55, 56, 57, 97, 98, 99, 100, 101, 102]
def unhB : List UInt8 → List UInt8 → List UInt8 × Bool
  | a :: b :: r, out => if findB a hexL 0 < 0 ∨ findB b hexL 0 < 0 then ([], false) else unhB r (out ++ [UInt8.ofNat (findB a hexL 0 * 16 + findB b hexL 0).toNat])
  | [], out => (out, true)
  | [_], _ => ([], false)
theorem hex16 (c : UInt8) : findB c hexL 0 < 16 ∧ -1 ≤ findB c hexL 0 := by
  have := findB_lt c hexL 0 (by omega)
  have h2 := findB_ge c hexL 0 (by omega)
  simp [hexL] at this
  simp only [hexL] at h2 ⊢
  omega
theorem byteOf_u8 : byteOf ∘ u8row = id := by
  funext c
  show UInt8.ofNat ((c.toNat : Int).toNat) = c
  simp
theorem renL_u8c (ρ : Nat → Option Plc) : renL ρ ∘ u8row = u8row := by
  funext c
  simp [u8row]
theorem sunhC (s : List UInt8) (hs : s.length ≤ 1048576) : CV prog 140 [.str s] (.tup [.str (unhB s []).1, .bool (unhB s []).2]) := by
  obtain ⟨R, hR⟩ : ∃ R, unhB s [] = R := ⟨_, rfl⟩
  rw [hR]
  have hml : maxLen = 9223372036854775807 := rfl
  have t1 : (s.length : Int).tmod 2 = (s.length : Int) % 2 := Int.tmod_eq_emod_of_nonneg (by omega)
  refine cvx func140 [] ntmps140 rfl rfl rfl ?_
  by_cases hodd : s.length % 2 = 0
  · have h1 : ¬ (0 : Int) < (s.length : Int) % 2 := by omega
    simp -implicitDefEqProofs [t1, h1]
    refine ev_lo (X := Nat × List UInt8) [0, 4, 5] [(12, 900)] (fun x => [(5, .int .i64 x.1), (4, .sl 900 0 x.2.length)]) (fun x => [(900, ⟨1, x.2.map u8row⟩)]) (fun x => s.length - x.1) (fun x => x.1 ≤ s.length ∧ x.1 % 2 = 0 ∧ x.2.length ≤ x.1 ∧ unhB (s.drop x.1) x.2 = R) (0, []) (by simp [hR]) ?_ (he := by simp [obOf])
    rintro ⟨i, out⟩ ⟨hi, hev, hol, hd⟩
    simp only at hi hev hol hd
    by_cases h2 : i < s.length
    · obtain ⟨a, f1⟩ : ∃ a, s[i]? = some a := ⟨_, List.getElem?_eq_getElem (by omega)⟩
      obtain ⟨b, f2⟩ : ∃ b, s[i + 1]? = some b := ⟨_, List.getElem?_eq_getElem (by omega)⟩
      rw [dropAt f1, dropAt f2, unhB] at hd
      have h3 : i + 1 < s.length := by omega
      have g1 : s[i] = a := (List.getElem?_eq_some_iff.1 f1).2
      have g2 : s[i + 1] = b := (List.getElem?_eq_some_iff.1 f2).2
      have c1 := findC hexL a (by simp [hexL, hml])
      have c2 := findC hexL b (by simp [hexL, hml])
      have b1 := hex16 a
      have b2 := hex16 b
      obtain ⟨p, hp⟩ : ∃ p, findB a hexL 0 = p := ⟨_, rfl⟩
      obtain ⟨q, hq⟩ : ∃ q, findB b hexL 0 = q := ⟨_, rfl⟩
      rw [hp] at c1 b1 hd
      rw [hq] at c2 b2 hd
      simp only [hexL] at c1 c2
      have e1 := i64w ((i : Int) + 1) (by omega) (by omega)
      have e2 := i64w ((i : Int) + 2) (by omega) (by omega)
      have e3 : ((i : Int) + 1).toNat = i + 1 := by omega
      simp -implicitDefEqProofs [h2, f1, g1]
      refine c1.call ?_
      simp -implicitDefEqProofs [h2, h3, f2, g2, e1, e3]
      refine ⟨⟨by omega, by omega⟩, ?_⟩
      refine c2.call ?_
      by_cases hpn : p < 0
      · rw [if_pos (.inl hpn)] at hd
        simp -implicitDefEqProofs [hpn, ← hd]
      · by_cases hqn : q < 0
        · rw [if_pos (.inr hqn)] at hd
          simp -implicitDefEqProofs [hpn, hqn, ← hd]
        · rw [if_neg (by omega)] at hd
          have w1 := i64w (p * 16) (by omega) (by omega)
          have w2 := i64w (p * 16 + q) (by omega) (by omega)
          have w3 : IntKind.u8.wrap (p * 16 + q) = p * 16 + q := by
            show (p * 16 + q) % 256 = _
            omega
          simp -implicitDefEqProofs [hpn, hqn, w1, w2, w3]
          refine ⟨by omega, ?_⟩
          have hu : u8row (UInt8.ofNat (p * 16 + q).toNat) = [.int .u8 (p * 16 + q)] := by
            show [AV.int .u8 (((UInt8.ofNat (p * 16 + q).toNat).toNat : Nat) : Int)] = _
            simp only [UInt8.toNat_ofNat']
            have : (p * 16 + q).toNat % 2 ^ 8 = (p * 16 + q).toNat := Nat.mod_eq_of_lt (by omega)
            rw [this]
            have : (((p * 16 + q).toNat : Nat) : Int) = p * 16 + q := by omega
            rw [this]
          refine nx (i + 2, out ++ [UInt8.ofNat (p * 16 + q).toNat]) [(41, 900)] ⟨by simp only; omega, by simp only; omega, by simp; omega, hd⟩ (by simp only; omega) (h4 := ?_)
          simp [obOf, e2, hu, List.take_of_length_le, renL_u8c]
    · have : i = s.length := by omega
      subst this
      rw [List.drop_eq_nil_of_le (by omega), unhB] at hd
      simp -implicitDefEqProofs [byteOf_u8, List.take_of_length_le]
      exact ⟨fun _ _ => rfl, by rw [← hd], by rw [← hd]⟩
  · have h1 : (0 : Int) < (s.length : Int) % 2 := by omega
    have ho : ∀ (n : Nat) (l o : List UInt8), l.length = 2 * n + 1 → unhB l o = ([], false) := by
      intro n
      induction n with
      | zero =>
        intro l o hl
        match l, hl with
        | [x], _ => rfl
      | succ n ih =>
        intro l o hl
        match l, hl with
        | a :: b :: r, hl =>
          unfold unhB
          split
          · rfl
          · exact ih r _ (by simp at hl; omega)
    have := ho (s.length / 2) s [] (by omega)
    rw [this] at hR
    simp -implicitDefEqProofs [t1, h1, ← hR]
def cutR (c : UInt8) : List UInt8 → List UInt8 → List (List UInt8)
  | [], cur => [cur]
  | x :: r, cur => if x = c then cur :: cutR c r [] else cutR c r (cur ++ [x])
def strR (t : List UInt8) : List AV := [.str t]
theorem renL_strR (ρ : Nat → Option Plc) : renL ρ ∘ strR = strR := by
  funext t
  simp [strR]
theorem scutO (s : List UInt8) (c : UInt8) (hs : s.length ≤ 1048576) : ACall prog 85 [.str s, .int .u8 (c.toNat : Int)] [] (fun r L' => r = .sl 900 0 (cutR c s []).length ∧ L' = [(900, ⟨1, (cutR c s []).map strR⟩)]) := by
  obtain ⟨R, hR⟩ : ∃ R, cutR c s [] = R := ⟨_, rfl⟩
  rw [hR]
  refine acx func85 [] ntmps85 rfl rfl rfl ?_
  simp -implicitDefEqProofs
  refine ev_lo (X := Nat × Nat × List (List UInt8)) [0, 1, 5, 6, 7] [(8, 900)] (fun x => [(7, .int .i64 x.1), (6, .int .i64 x.2.1), (5, .sl 900 0 x.2.2.length)]) (fun x => [(900, ⟨1, x.2.2.map strR⟩)]) (fun x => s.length + 1 - x.1)
    (fun x => x.2.2.length ≤ x.1 ∧ ((x.1 ≤ s.length ∧ x.2.1 ≤ x.1 ∧ x.2.2 ++ cutR c (s.drop x.1) (List.take (x.1 - x.2.1) (List.drop x.2.1 s)) = R) ∨ (x.1 = s.length + 1 ∧ x.2.2 = R))) (0, 0, []) ⟨by simp, .inl ⟨by simp, by simp, by simpa using hR⟩⟩ ?_ (he := by simp [obOf])
  rintro ⟨i, fr, ps⟩ ⟨hpl, hg⟩
  simp only at hpl hg
  rcases hg with ⟨hi, hf, hd⟩ | ⟨hi, hd⟩
  · have h0 : (i : Int) ≤ s.length := by omega
    have e1 := i64w ((i : Int) + 1) (by omega) (by omega)
    by_cases h1 : i = s.length
    · subst h1
      rw [List.drop_eq_nil_of_le (by omega), cutR] at hd
      simp -implicitDefEqProofs
      refine ⟨by omega, by omega, ?_⟩
      refine nx (s.length + 1, s.length + 1, ps ++ [List.take (s.length - fr) (List.drop fr s)]) [(32, 900)] ⟨by simp only [List.length_append, List.length_singleton]; omega, .inr ⟨rfl, hd⟩⟩ (by simp only; omega) (h4 := ?_)
      simp [obOf, e1, renL_strR, strR, List.take_of_length_le]
    · have h1' : ¬ (i : Int) = s.length := by omega
      have hlt : i < s.length := by omega
      obtain ⟨x, f1⟩ : ∃ x, s[i]? = some x := ⟨_, List.getElem?_eq_getElem (by omega)⟩
      have f0 : s[i] = x := (List.getElem?_eq_some_iff.1 f1).2
      rw [dropAt f1, cutR] at hd
      by_cases hxc : x = c
      · subst hxc
        rw [if_pos rfl] at hd
        simp -implicitDefEqProofs [h0, h1', hlt, f0, f1]
        refine ⟨⟨by omega, by omega⟩, by omega, ?_⟩
        refine nx (i + 1, i + 1, ps ++ [List.take (i - fr) (List.drop fr s)]) [(32, 900)] ⟨by simp only [List.length_append, List.length_singleton]; omega, .inl ⟨by simp only; omega, by simp, by simpa using hd⟩⟩ (by simp only; omega) (h4 := ?_)
        simp [obOf, e1, renL_strR, strR, List.take_of_length_le]
      · rw [if_neg hxc] at hd
        have e3 : ¬ ((x.toNat : Int) = c.toNat) := fun h => hxc (UInt8.toNat_inj.1 (by omega))
        simp -implicitDefEqProofs [h0, h1', hlt, f0, f1, e3]
        have e4 : List.take (i + 1 - fr) (List.drop fr s) = List.take (i - fr) (List.drop fr s) ++ [x] := by
          rw [show i + 1 - fr = i - fr + 1 by omega]
          exact takeS (by rw [List.getElem?_drop, show fr + (i - fr) = i by omega]; exact f1)
        refine nx (i + 1, fr, ps) [(900, 900)] ⟨by simp only; omega, .inl ⟨by simp only; omega, by simp only; omega, by simp only; rw [e4]; exact hd⟩⟩ (by simp only; omega) (h4 := ?_)
        simp [obOf, e1, renL_strR]
  · subst hi
    have h0 : ¬ ((s.length : Int) + 1) ≤ s.length := by omega
    simp -implicitDefEqProofs [h0]
    exact ⟨by rw [hd], by rw [hd]⟩
theorem scutC (s : List UInt8) (c : UInt8) (hs : s.length ≤ 1048576) : CV prog 85 [.str s, .int .u8 (c.toNat : Int)] (.lst 1 ((cutR c s []).map strR)) := by
  refine CV.of_frz (scutO s c hs) (fun r L' hR => ?_)
  obtain ⟨rfl, rfl⟩ := hR
  refine ⟨by simp, by simp, ?_, ?_⟩
  · simp [clR, strR, clL, clA]
  · simp [frzAll, List.take_of_length_le]
    exact impA_refl _
def numB (n : Nat) : List UInt8 → Option Nat
  | [] => some n
  | x :: r => if x.toNat < 48 ∨ 57 < x.toNat then none else numB (n * 10 + (x.toNat - 48)) r
def numT (neg : Bool) (t : List UInt8) : Int × Bool :=
  if t.length = 0 ∨ 17 < t.length ∨ (t.head? = some 48 ∧ (1 < t.length ∨ neg = true)) then (0, false) else
  match numB 0 t with
  | none => (0, false)
  | some n => (if neg = true then -(n : Int) else n, true)
def snumB (s : List UInt8) : Int × Bool := if s.head? = some 45 then numT true s.tail else numT false s
theorem snumC (s : List UInt8) (hs : s.length ≤ 1048576) : CV prog 139 [.str s] (.tup [.int .i64 (snumB s).1, .bool (snumB s).2]) := by
  obtain ⟨R, hR⟩ : ∃ R, snumB s = R := ⟨_, rfl⟩
  rw [hR]
  refine cvx func139 [] ntmps139 rfl rfl rfl ?_
  unfold snumB at hR
  cases s with
  | nil =>
    simp [numT] at hR
    simp -implicitDefEqProofs [← hR]
  | cons x r =>
    have hrl : List.take r.length r = r := List.take_of_length_le (Nat.le_refl _)
    by_cases hx : x = 45
    · subst hx
      simp only [List.head?_cons, List.tail_cons, if_true] at hR
      unfold numT at hR
      by_cases hc : r.length = 0 ∨ 17 < r.length ∨ r.head? = some 48 ∧ (1 < r.length ∨ true = true)
      · rw [if_pos hc] at hR
        simp -implicitDefEqProofs [hrl, ← hR]
        cases r with
        | nil => simp
        | cons y t =>
          intro _ g2
          refine ⟨by simp, fun g3 => ?_⟩
          exfalso
          simp at hc g2 g3
          rcases hc with h | h
          · omega
          · subst h
            exact g3 rfl
      · rw [if_neg hc] at hR
        obtain ⟨N, hN⟩ : ∃ N, numB 0 r = N := ⟨_, rfl⟩
        rw [hN] at hR
        cases r with
        | nil => simp at hc
        | cons y t =>
          simp only [List.head?_cons, List.length_cons, Option.some.injEq, or_true, and_true, not_or] at hc
          have hy' : ¬ ((y.toNat : Int) = 48) := fun h => hc.2.2 (UInt8.toNat_inj.1 (by simpa using by omega))
          have h17 : (t.length : Int) + 1 ≤ 17 := by omega
          have h17' : ¬ 17 < (t.length : Int) + 1 := by omega
          simp -implicitDefEqProofs [hrl, hy', h17, h17']
          refine ⟨fun _ => ⟨by omega, fun _ => ?_, fun h => by omega⟩, fun h => by omega⟩
          have hTl : (y :: t).length ≤ 17 := by simp; omega
          refine ev_lp (X := Nat × Nat) [0, 4, 5, 6] [] (fun w => [(6, .int .i64 w.1), (5, .int .i64 w.2)]) (fun _ => []) (fun w => (y :: t).length - w.1) (fun w => w.1 ≤ (y :: t).length ∧ w.2 < 10 ^ w.1 ∧ numB w.2 ((y :: t).drop w.1) = N) (0, 0) ⟨by omega, by simp, hN⟩ ?_
          rintro ⟨i, n⟩ ⟨hi, hn, hd⟩
          simp only at hi hn hd
          have hp : 10 ^ i ≤ 10 ^ 17 := Nat.pow_le_pow_right (by omega) (by omega)
          cases hr : (y :: t).drop i with
          | nil =>
            have := dropn hr
            rw [hr, numB] at hd
            have hie : i = (y :: t).length := by omega
            rw [← hd] at hR
            have w0 := i64w (-(n : Int)) (by omega) (by omega)
            simp -implicitDefEqProofs [hie, w0, ← hR]
          | cons z q =>
            obtain ⟨g1, g0, g2, g3⟩ := dropc hr
            rw [hr, numB] at hd
            have e2 := i64w ((i : Int) + 1) (by omega) (by omega)
            have hz := z.toNat_lt
            have g1' : (i : Int) < (t.length : Int) + 1 := by simp at g1; omega
            by_cases hbad : z.toNat < 48 ∨ 57 < z.toNat
            · rw [if_pos hbad] at hd
              rw [← hd] at hR
              simp -implicitDefEqProofs [g1', g1, g0, g2, ← hR]
              intros
              omega
            · rw [if_neg hbad] at hd
              have w1 := i64w ((n : Int) * 10) (by omega) (by omega)
              have w2 : IntKind.u8.wrap ((z.toNat : Int) - 48) = (z.toNat : Int) - 48 := by
                show ((z.toNat : Int) - 48) % 256 = _
                omega
              have w3 := i64w ((z.toNat : Int) - 48) (by omega) (by omega)
              have w4 := i64w ((n : Int) * 10 + ((z.toNat : Int) - 48)) (by omega) (by omega)
              have b1 : ¬ ((z.toNat : Int) < 48) := by omega
              have b2 : ¬ (57 < (z.toNat : Int)) := by omega
              simp -implicitDefEqProofs [g1', g1, g0, g2, b1, b2, e2, w1, w2, w3, w4]
              have c1 : ((z.toNat - 48 : Nat) : Int) = (z.toNat : Int) - 48 := by omega
              have hps : 10 ^ (i + 1) = 10 ^ i * 10 := Nat.pow_succ ..
              refine nx (i + 1, n * 10 + (z.toNat - 48)) [] ⟨by simp only; omega, by simp only; omega, by simp only [g3]; exact hd⟩ (by simp only; omega) (h4 := ?_)
              simp [e2, w1, w2, w3, w4, c1]
    · have hx' : ¬ ((x.toNat : Int) = 45) := fun h => hx (UInt8.toNat_inj.1 (by simpa using by omega))
      simp only [List.head?_cons, Option.some.injEq, hx, if_false] at hR
      unfold numT at hR
      by_cases hc : (x :: r).length = 0 ∨ 17 < (x :: r).length ∨ (x :: r).head? = some 48 ∧ (1 < (x :: r).length ∨ false = true)
      · rw [if_pos hc] at hR
        simp -implicitDefEqProofs [hrl, hx', ← hR]
        intro _ g2
        simp only [List.length_cons, List.head?_cons, Option.some.injEq, Bool.false_eq_true, or_false] at hc
        refine ⟨fun g3 g4 => ?_, fun g3 => ?_⟩
        · exfalso
          omega
        · exfalso
          rcases hc with h | h | ⟨h, _⟩
          · omega
          · omega
          · subst h
            exact g3 rfl
      · rw [if_neg hc] at hR
        obtain ⟨N, hN⟩ : ∃ N, numB 0 (x :: r) = N := ⟨_, rfl⟩
        rw [hN] at hR
        simp only [List.head?_cons, List.length_cons, Option.some.injEq, Bool.false_eq_true, or_false, not_or, not_and] at hc
        have h17 : (r.length : Int) + 1 ≤ 17 := by omega
        have h17' : ¬ 17 < (r.length : Int) + 1 := by omega
        have hTl : (x :: r).length ≤ 17 := by simp; omega
        simp -implicitDefEqProofs [hrl, hx', h17, h17']
        refine ⟨fun _ => ⟨fun g => ⟨fun _ => ?_, fun h => absurd (hc.2.2 (UInt8.toNat_inj.1 (by simpa using by omega))) (by omega)⟩, fun g => ?_⟩, fun h => by omega⟩
        all_goals
          refine ev_lp (X := Nat × Nat) [0, 4, 5, 6] [] (fun w => [(6, .int .i64 w.1), (5, .int .i64 w.2)]) (fun _ => []) (fun w => (x :: r).length - w.1) (fun w => w.1 ≤ (x :: r).length ∧ w.2 < 10 ^ w.1 ∧ numB w.2 ((x :: r).drop w.1) = N) (0, 0) ⟨by omega, by simp, hN⟩ ?_
          rintro ⟨i, n⟩ ⟨hi, hn, hd⟩
          simp only at hi hn hd
          have hp : 10 ^ i ≤ 10 ^ 17 := Nat.pow_le_pow_right (by omega) (by omega)
          cases hr : (x :: r).drop i with
          | nil =>
            have := dropn hr
            rw [hr, numB] at hd
            have hie : i = (x :: r).length := by omega
            rw [← hd] at hR
            have w0 := i64w (-(n : Int)) (by omega) (by omega)
            simp -implicitDefEqProofs [hie, w0, hx', ← hR]
          | cons z q =>
            obtain ⟨g1, g0, g2, g3⟩ := dropc hr
            rw [hr, numB] at hd
            have e2 := i64w ((i : Int) + 1) (by omega) (by omega)
            have hz := z.toNat_lt
            have g1' : (i : Int) < (r.length : Int) + 1 := by simp at g1; omega
            by_cases hbad : z.toNat < 48 ∨ 57 < z.toNat
            · rw [if_pos hbad] at hd
              rw [← hd] at hR
              simp -implicitDefEqProofs [g1', g1, g0, g2, ← hR]
              intros
              omega
            · rw [if_neg hbad] at hd
              have w1 := i64w ((n : Int) * 10) (by omega) (by omega)
              have w2 : IntKind.u8.wrap ((z.toNat : Int) - 48) = (z.toNat : Int) - 48 := by
                show ((z.toNat : Int) - 48) % 256 = _
                omega
              have w3 := i64w ((z.toNat : Int) - 48) (by omega) (by omega)
              have w4 := i64w ((n : Int) * 10 + ((z.toNat : Int) - 48)) (by omega) (by omega)
              have b1 : ¬ ((z.toNat : Int) < 48) := by omega
              have b2 : ¬ (57 < (z.toNat : Int)) := by omega
              simp -implicitDefEqProofs [g1', g1, g0, g2, b1, b2, e2, w1, w2, w3, w4]
              have c1 : ((z.toNat - 48 : Nat) : Int) = (z.toNat : Int) - 48 := by omega
              have hps : 10 ^ (i + 1) = 10 ^ i * 10 := Nat.pow_succ ..
              refine nx (i + 1, n * 10 + (z.toNat - 48)) [] ⟨by simp only; omega, by simp only; omega, by simp only [g3]; exact hd⟩ (by simp only; omega) (h4 := ?_)
              simp [e2, w1, w2, w3, w4, c1]
end Go.Av.F
end
section
namespace Go.Av.F
open Go Go.Av Go.Proofs Go.Proofs.Tryz
set_option linter.unusedSimpArgs false
set_option linter.unusedVariables false
set_option maxRecDepth 100000
def wordB (w name : List UInt8) : BO × Bool :=
  if findB 61 w 0 < 1 then (⟨0, [], [], 0, []⟩, false) else
  (⟨3, name, [], (snumB (w.take (findB 61 w 0).toNat)).1, (unhB (w.drop ((findB 61 w 0).toNat + 1)) []).1⟩,
    (snumB (w.take (findB 61 w 0).toNat)).2 && (unhB (w.drop ((findB 61 w 0).toNat + 1)) []).2 && decide (0 ≤ (snumB (w.take (findB 61 w 0).toNat)).1) && decide ((snumB (w.take (findB 61 w 0).toNat)).1 < 8) && decide ((unhB (w.drop ((findB 61 w 0).toNat + 1)) []).1.length ≤ 24))
theorem wordC (w name : List UInt8) (hw : w.length ≤ 1048576) : CV prog 86 [.str w, .str name] (.tup [.agg (BO.row (wordB w name).1), .bool (wordB w name).2]) := by
  obtain ⟨R, hR⟩ : ∃ R, wordB w name = R := ⟨_, rfl⟩
  rw [hR]
  have hml : maxLen = 9223372036854775807 := rfl
  have hlt := findB_lt 61 w 0 (by omega)
  have hge := findB_ge 61 w 0 (by omega)
  have fc := findC w 61 (by omega)
  have nc := snumC (w.take (findB 61 w 0).toNat) (by simp; omega)
  have uc := sunhC (w.drop ((findB 61 w 0).toNat + 1)) (by simp; omega)
  unfold wordB at hR
  refine cvx func86 [] ntmps86 rfl rfl rfl ?_ (hcv := by simp [BO.row])
  simp -implicitDefEqProofs
  refine fc.call ?_
  generalize findB 61 w 0 = k at *
  by_cases h : k < 1
  · rw [if_pos h] at hR
    simp -implicitDefEqProofs [h, ← hR, BO.row]
  · rw [if_neg h] at hR
    have e1 := i64w (k + 1) (by omega) (by omega)
    have d1 : (k + 1).toNat = k.toNat + 1 := by omega
    have d2 : List.take (w.length - (k.toNat + 1)) (List.drop (k.toNat + 1) w) = List.drop (k.toNat + 1) w := List.take_of_length_le (by simp)
    generalize snumB (w.take k.toNat) = nn at *
    generalize unhB (w.drop (k.toNat + 1)) [] = uu at *
    obtain ⟨n1, n2⟩ := nn
    obtain ⟨u1, u2⟩ := uu
    simp only at nc uc hR
    simp -implicitDefEqProofs [h, e1, d1, d2]
    refine ⟨⟨by omega, by omega⟩, ?_⟩
    refine nc.call ?_
    simp -implicitDefEqProofs [h, e1, d1, d2]
    refine ⟨⟨by omega, by omega⟩, ?_⟩
    refine uc.call ?_
    simp -implicitDefEqProofs [← hR, BO.row]
    have ed : decide ((u1.length : Int) ≤ 24) = decide (u1.length ≤ 24) := decide_eq_decide.2 (by omega)
    rw [ed]
    clear hR nc uc fc
    cases n2 <;> cases u2 <;> grind
theorem cutR_pos (c : UInt8) : ∀ (s cur : List UInt8), 0 < (cutR c s cur).length
  | [], cur => by simp [cutR]
  | x :: r, cur => by
    unfold cutR
    split
    · simp
    · exact cutR_pos c r _
theorem cutR_len (c : UInt8) : ∀ (s cur : List UInt8), ∀ t ∈ cutR c s cur, t.length ≤ cur.length + s.length
  | [], cur, t, h => by
    simp only [cutR, List.mem_singleton] at h
    subst h
    simp
  | x :: r, cur, t, h => by
    unfold cutR at h
    split at h
    · rcases List.mem_cons.1 h with rfl | h
      · simp
      · have := cutR_len c r [] t h
        simp at this ⊢
        omega
    · have := cutR_len c r _ t h
      simp at this ⊢
      omega
theorem cutR_num (c : UInt8) : ∀ (s cur : List UInt8), (cutR c s cur).length ≤ s.length + 1
  | [], cur => by simp [cutR]
  | x :: r, cur => by
    unfold cutR
    split
    · have := cutR_num c r []
      simp
      omega
    · have := cutR_num c r (cur ++ [x])
      simp
      omega
theorem openB_len (s : List UInt8) : (openB s).1.length ≤ s.length := by
  unfold openB
  split
  · simp
  · split <;> simp
def lateB (out : List BO) (i : Int) : Bool := match out.getLast? with
  | some o => decide (i ≤ o.i)
  | none => false
def readL (name : List UInt8) : List (List UInt8) → List BO → Option (List BO)
  | [], out => some out
  | w :: r, out => if (wordB w name).2 = false ∨ lateB out (wordB w name).1.i = true then none else readL name r (out ++ [(wordB w name).1])
def sreadB (text name : List UInt8) : List BO × Bool :=
  if (openB text).2 = false ∨ (cutR 32 (openB text).1 []).head? ≠ some [115, 101, 110, 100] then ([], false) else
  match readL name (cutR 32 (openB text).1 []).tail [] with
  | none => ([], false)
  | some l => (l, true)
theorem sreadO (text name : List UInt8) (ht : text.length ≤ 1048576) : ACall prog 37 [.str text, .str name] [] (fun r L' => ∃ id, r = .tup [.sl id 0 (sreadB text name).1.length, .bool (sreadB text name).2] ∧ L' = [(id, opsOb (sreadB text name).1)]) := by
  obtain ⟨R, hR⟩ : ∃ R, sreadB text name = R := ⟨_, rfl⟩
  rw [hR]
  unfold sreadB at hR
  have ho := openB_len text
  have oc := sopenC text ht
  refine acx func37 [(10, [⟨0, [], [], [], []⟩, ⟨1, [], [], [], []⟩, ⟨2, [], [], [], []⟩, ⟨3, [], [], [], []⟩, ⟨4, [], [], [], []⟩, ⟨5, [], [], [], []⟩, ⟨6, [], [], [], []⟩, ⟨7, [], [], [], []⟩, ⟨8, [11], [], [], []⟩, ⟨9, [], [11], [], []⟩, ⟨10, [], [11], [], []⟩, ⟨11, [], [11], [], []⟩, ⟨12, [], [11], [], []⟩, ⟨13, [900], [11], [], []⟩, ⟨14, [], [11], [], []⟩, ⟨15, [900], [11], [], []⟩, ⟨16, [], [], [], []⟩, ⟨17, [], [], [], []⟩, ⟨18, [], [], [], []⟩])] ntmps37 rfl rfl rfl ?_
  simp -implicitDefEqProofs
  refine oc.call ?_
  generalize openB text = op at *
  obtain ⟨s, ok⟩ := op
  simp only at ho hR
  have cc := scutC s 32 (by omega)
  have hcp := cutR_pos 32 s []
  have hcl := cutR_len 32 s []
  have hcn := cutR_num 32 s []
  generalize cutR 32 s [] = ws at *
  simp only at oc
  cases ws with
  | nil => simp at hcp
  | cons f ws =>
    cases ok with
    | false =>
      rw [if_pos (.inl rfl)] at hR
      simp -implicitDefEqProofs
      refine cc.call ?_
      simp -implicitDefEqProofs [← hR]
      rfl
    | true =>
      simp -implicitDefEqProofs
      refine cc.call ?_
      by_cases hf : f = [115, 101, 110, 100]
      · rw [if_neg (by simp [hf])] at hR
        simp only [List.tail_cons] at hR
        simp -implicitDefEqProofs [strR, hf]
        refine ev_lo (X := Nat × List BO) [1, 8, 9, 10] [(20, 900)] (fun x => [(10, .int .i64 x.1), (9, .sl 900 0 x.2.length)]) (fun x => [(900, opsOb x.2)]) (fun x => ws.length + 1 - x.1)
          (fun x => 1 ≤ x.1 ∧ x.1 ≤ ws.length + 1 ∧ x.2.length < x.1 ∧ (match readL name (ws.drop (x.1 - 1)) x.2 with | none => ([], false) | some l => (l, true)) = R) (1, []) ⟨by omega, by omega, by simp, by simpa using hR⟩ ?_ (he := by simp [obOf, opsOb])
        rintro ⟨i, out⟩ ⟨h1, hi, hol, hd⟩
        simp only at h1 hi hol hd
        cases hr : ws.drop (i - 1) with
        | nil =>
          have := dropn hr
          rw [hr, readL] at hd
          have hie : i = ws.length + 1 := by omega
          have h2 : ¬ ((i : Int) < (ws.length : Int) + 1) := by omega
          simp -implicitDefEqProofs [h2, ← hd]
        | cons w q =>
          obtain ⟨g1, g0, g2, g3⟩ := dropc hr
          rw [hr, readL] at hd
          have h2 : (i : Int) < (ws.length : Int) + 1 := by omega
          obtain ⟨j, rfl⟩ : ∃ j, i = j + 1 := ⟨i - 1, by omega⟩
          simp only [Nat.add_sub_cancel] at g1 g0 g2 g3
          simp only [List.length_cons] at hcn
          have hwm := hcl w (List.mem_cons_of_mem _ (List.mem_of_getElem? g2))
          simp only [List.length_nil, Nat.zero_add] at hwm
          have h2' : (j : Int) + 1 < (ws.length : Int) + 1 := by omega
          have h3 : 0 ≤ (j : Int) + 1 := by omega
          have e1 := i64w ((j : Int) + 1 + 1) (by omega) (by omega)
          have wc := wordC w name (by omega)
          generalize wordB w name = ww at *
          obtain ⟨o, fine⟩ := ww
          simp only at wc hd
          simp -implicitDefEqProofs [h2, h2', h3, g1, g0, g2, strR]
          refine wc.call ?_
          cases fine with
          | false =>
            simp only [true_or, if_true] at hd
            simp -implicitDefEqProofs [BO.row, ← hd]
            rfl
          | true =>
            simp only [Bool.true_eq_false, false_or] at hd
            rcases List.eq_nil_or_concat out with hout | ⟨out', lo, hout⟩
            · subst hout
              have hlb : lateB [] o.i = false := rfl
              rw [hlb] at hd
              simp -implicitDefEqProofs [BO.row, ops_sz, ops_els]
              refine nx (j + 2, [o]) [(68, 900)] ⟨by simp only; omega, by simp only; omega, by simp only [List.length_singleton]; omega, ?_⟩ (by simp only; omega) (h4 := ?_)
              · simp only [show j + 2 - 1 = j + 1 by omega, g3]
                simpa using hd
              · simp [obOf, e1, opsOb, BO.row]
                rw [show (j : Int) + 1 + 1 = j + 2 by omega]
            · have ho2 : out = out' ++ [lo] := by rw [hout, List.concat_eq_append]
              clear hout
              subst ho2
              have w1 := i64w (out'.length : Int) (by omega) (by simp at hol; omega)
              have hlb : lateB (out' ++ [lo]) o.i = decide (o.i ≤ lo.i) := by simp [lateB]
              rw [hlb] at hd
              simp -implicitDefEqProofs [BO.row, ops_sz, ops_els, w1]
              refine ⟨by omega, fun hle => ?_, fun hgt => ⟨by simp at hol; omega, ?_⟩⟩
              · rw [if_pos (by simpa using hle)] at hd
                simp only at hd
                refine ⟨[(64, ⟨5, []⟩)], ?_, 64, ?_, ?_⟩
                · simp
                · rw [← hd]
                  simp
                · rw [← hd]
                  rfl
              · rw [if_neg (by simpa using hgt)] at hd
                refine nx (j + 2, out' ++ [lo] ++ [o]) [(68, 900)] ⟨by simp only; omega, by simp only; omega, by simp at hol ⊢; omega, ?_⟩ (by simp only; omega) (h4 := ?_)
                · simp only [show j + 2 - 1 = j + 1 by omega, g3]
                  exact hd
                · simp [obOf, e1, opsOb, BO.row, List.take_of_length_le, renL_opc]
                  rw [show (j : Int) + 1 + 1 = j + 2 by omega]
      · rw [if_pos (by simp [hf])] at hR
        simp -implicitDefEqProofs [strR, hf, ← hR]
        rfl
theorem sreadC (text name : List UInt8) (ht : text.length ≤ 1048576) : CV prog 37 [.str text, .str name] (.tup [.lst 5 ((sreadB text name).1.map BO.row), .bool (sreadB text name).2]) := by
  refine CV.of_frz (sreadO text name ht) (fun r L' hR => ?_) (hcv := by simp [clA])
  obtain ⟨id, rfl, rfl⟩ := hR
  refine ⟨by simp, by simp, by simp [opsOb, clR, BO.row, clL, clA], ?_⟩
  simp [frzAll, opsOb, List.take_of_length_le]
  exact impA_refl _
end Go.Av.F
end
section
namespace Go.Proofs
open Go.Shelf Go.RowKit Go.Sort Go.Lib
def Tryz.lays137_ren : Go.Shelf.Ren := ⟨fun | 137 => 117 | 217 => 163 | 266 => 200 | n => n, fun | 9 => 9 | 5 => 5 | 3 => 3 | n => n, fun | n => n⟩
theorem Tryz.lays137 : Go.Proofs.Lays.n137 Tryz.prog Tryz.lays137_ren := {
  mixed := by kernel_rfl
  f137 := Tryz.func117.trans (congrArg some (by kernel_rfl))
  f217 := Tryz.func163.trans (congrArg some (by kernel_rfl))
  f266 := Tryz.func200.trans (congrArg some (by kernel_rfl))
  t3 := Tryz.underlying3
  a3 := Tryz.isAgg3
  z3 := Tryz.sizeOf3
  v3 := Tryz.zeroValue3
  t5 := Tryz.underlying5
  a5 := Tryz.isAgg5
  z5 := Tryz.sizeOf5
  v5 := Tryz.zeroValue5
  t9 := Tryz.underlying9
  a9 := Tryz.isAgg9
  z9 := Tryz.sizeOf9
  v9 := Tryz.zeroValue9 }
theorem Tryz.strings_IndexByte (s : ByteArray) (c : Int) (w : World) :
    Calls Tryz.prog 117 #[.string s, .int .u8 c] w fun e w' => e = .returned (.int .i64 (Lib.indexByte s.data.toList c.toNat.toUInt8)) ∧ w' = w := Any.strings_IndexByte Tryz.lays137 s c w
def Tryz.laysM171_ren : Go.Shelf.Ren := ⟨fun | 171 => 62 | 243 => 106 | 246 => 151 | 283 => 186 | 284 => 187 | 285 => 188 | 286 => 189 | 129 => 221 | 317 => 220 | 318 => 222 | 319 => 223 | 320 => 224 | 337 => 242 | 338 => 243 | n => n, fun | 3 => 3 | 9 => 9 | 2 => 2 | 4 => 4 | 171 => 206 | 0 => 0 | 53 => 207 | 37 => 22 | 5 => 5 | 173 => 210 | 212 => 244 | 51 => 245 | 20 => 20 | 213 => 246 | 46 => 149 | 232 => 278 | 233 => 279 | n => n, fun | 17 => 3 | 18 => 6 | 19 => 7 | n => n⟩
theorem Tryz.laysM171 : Go.Proofs.LaysM.n171 Tryz.prog Tryz.laysM171_ren := {
  mixed := by kernel_rfl
  f129 := Tryz.func221.trans (congrArg some (by kernel_rfl))
  f171 := Tryz.func62.trans (congrArg some (by kernel_rfl))
  f243 := Tryz.func106.trans (congrArg some (by kernel_rfl))
  f246 := Tryz.func151.trans (congrArg some (by kernel_rfl))
  f283 := Tryz.func186.trans (congrArg some (by kernel_rfl))
  f284 := Tryz.func187.trans (congrArg some (by kernel_rfl))
  f285 := Tryz.func188.trans (congrArg some (by kernel_rfl))
  f286 := Tryz.func189.trans (congrArg some (by kernel_rfl))
  f317 := Tryz.func220.trans (congrArg some (by kernel_rfl))
  f318 := Tryz.func222.trans (congrArg some (by kernel_rfl))
  f319 := Tryz.func223.trans (congrArg some (by kernel_rfl))
  f320 := Tryz.func224.trans (congrArg some (by kernel_rfl))
  f337 := Tryz.func242.trans (congrArg some (by kernel_rfl))
  f338 := Tryz.func243.trans (congrArg some (by kernel_rfl))
  t0 := Tryz.underlying0
  a0 := Tryz.isAgg0
  z0 := Tryz.sizeOf0
  v0 := Tryz.zeroValue0
  t2 := Tryz.underlying2
  a2 := Tryz.isAgg2
  z2 := Tryz.sizeOf2
  v2 := Tryz.zeroValue2
  t3 := Tryz.underlying3
  a3 := Tryz.isAgg3
  z3 := Tryz.sizeOf3
  v3 := Tryz.zeroValue3
  t4 := Tryz.underlying4
  a4 := Tryz.isAgg4
  z4 := Tryz.sizeOf4
  v4 := Tryz.zeroValue4
  t5 := Tryz.underlying5
  a5 := Tryz.isAgg5
  z5 := Tryz.sizeOf5
  v5 := Tryz.zeroValue5
  t9 := Tryz.underlying9
  a9 := Tryz.isAgg9
  z9 := Tryz.sizeOf9
  v9 := Tryz.zeroValue9
  t20 := Tryz.underlying20
  a20 := Tryz.isAgg20
  z20 := Tryz.sizeOf20
  v20 := Tryz.zeroValue20
  t37 := Tryz.underlying22
  a37 := Tryz.isAgg22
  z37 := Tryz.sizeOf22
  v37 := Tryz.zeroValue22
  t46 := Tryz.underlying149
  a46 := Tryz.isAgg149
  z46 := Tryz.sizeOf149
  v46 := Tryz.zeroValue149
  t51 := Tryz.underlying245
  a51 := Tryz.isAgg245
  z51 := Tryz.sizeOf245
  v51 := Tryz.zeroValue245
  t53 := Tryz.underlying207
  a53 := Tryz.isAgg207
  z53 := Tryz.sizeOf207
  v53 := Tryz.zeroValue207
  t171 := Tryz.underlying206
  a171 := Tryz.isAgg206
  z171 := Tryz.sizeOf206
  v171 := Tryz.zeroValue206
  t173 := Tryz.underlying210
  a173 := Tryz.isAgg210
  z173 := Tryz.sizeOf210
  v173 := Tryz.zeroValue210
  t212 := Tryz.underlying244
  a212 := Tryz.isAgg244
  z212 := Tryz.sizeOf244
  v212 := Tryz.zeroValue244
  t213 := Tryz.underlying246
  a213 := Tryz.isAgg246
  z213 := Tryz.sizeOf246
  t232 := Tryz.underlying278
  a232 := Tryz.isAgg278
  z232 := Tryz.sizeOf278
  v232 := Tryz.zeroValue278
  t233 := Tryz.underlying279
  a233 := Tryz.isAgg279
  z233 := Tryz.sizeOf279
  v233 := Tryz.zeroValue279
  g17 := by kernel_rfl
  g18 := by kernel_rfl
  g19 := by kernel_rfl
  i0 := by kernel_rfl
  i2 := by kernel_rfl
  i3 := by kernel_rfl
  i4 := by kernel_rfl
  i5 := by kernel_rfl
  i9 := by kernel_rfl
  i20 := by kernel_rfl
  i37 := by kernel_rfl
  i46 := by kernel_rfl
  i51 := by kernel_rfl
  i53 := by kernel_rfl
  i171 := by kernel_rfl
  i173 := by kernel_rfl
  i212 := by kernel_rfl
  i232 := by kernel_rfl
  i233 := by kernel_rfl
  m17 := by kernel_rfl
  m18 := by kernel_rfl
  m19 := by kernel_rfl }
theorem Tryz.strconv_Itoa (n : Int) (h0 : -9223372036854775808 ≤ n) (h1 : n ≤ 9223372036854775807) (w : World) (htab : Lib.TabIs Tryz.prog w "internal/strconv.uint64pow10" .u64 Lib.pow10Tab) :
    Calls Tryz.prog 62 #[.int .i64 n] w fun e w' => e = .returned (.string ⟨(Lib.itoa n).toArray⟩) ∧ ∃ k os, w' = grow (w.drewN k) os := Any.strconv_Itoa Tryz.laysM171 n h0 h1 w htab
def Tryz.laysC172_ren : Go.Shelf.Ren := ⟨fun | 172 => 74 | 244 => 115 | 245 => 116 | 247 => 158 | 279 => 159 | 280 => 160 | 281 => 161 | 282 => 162 | 287 => 197 | 316 => 198 | 171 => 62 | 205 => 199 | 321 => 227 | 322 => 228 | 243 => 106 | 246 => 151 | 283 => 186 | 284 => 187 | 285 => 188 | 286 => 189 | 129 => 221 | 317 => 220 | 318 => 222 | 319 => 223 | 320 => 224 | 337 => 242 | 338 => 243 | n => n, fun | 9 => 9 | 3 => 3 | 75 => 111 | 76 => 112 | 4 => 4 | 5 => 5 | 167 => 183 | 37 => 22 | 0 => 0 | 85 => 184 | 2 => 2 | 168 => 186 | 53 => 207 | 175 => 213 | 46 => 149 | 210 => 216 | 127 => 251 | 145 => 254 | 143 => 252 | 21 => 21 | 171 => 206 | 173 => 210 | 212 => 244 | 51 => 245 | 20 => 20 | 213 => 246 | 232 => 278 | 233 => 279 | 80 => 283 | n => n, fun | 15 => 1 | 16 => 2 | 17 => 3 | 18 => 6 | 19 => 7 | n => n⟩
theorem Tryz.laysC172 : Go.Proofs.LaysC.n172 Tryz.prog Tryz.laysC172_ren := {
  mixed := by kernel_rfl
  f129 := Tryz.func221.trans (congrArg some (by kernel_rfl))
  f171 := Tryz.func62.trans (congrArg some (by kernel_rfl))
  f172 := Tryz.func74.trans (congrArg some (by kernel_rfl))
  f205 := Tryz.func199.trans (congrArg some (by kernel_rfl))
  f243 := Tryz.func106.trans (congrArg some (by kernel_rfl))
  f244 := Tryz.func115.trans (congrArg some (by kernel_rfl))
  f245 := Tryz.func116.trans (congrArg some (by kernel_rfl))
  f246 := Tryz.func151.trans (congrArg some (by kernel_rfl))
  f247 := Tryz.func158.trans (congrArg some (by kernel_rfl))
  f279 := Tryz.func159.trans (congrArg some (by kernel_rfl))
  f280 := Tryz.func160.trans (congrArg some (by kernel_rfl))
  f281 := Tryz.func161.trans (congrArg some (by kernel_rfl))
  f282 := Tryz.func162.trans (congrArg some (by kernel_rfl))
  f283 := Tryz.func186.trans (congrArg some (by kernel_rfl))
  f284 := Tryz.func187.trans (congrArg some (by kernel_rfl))
  f285 := Tryz.func188.trans (congrArg some (by kernel_rfl))
  f286 := Tryz.func189.trans (congrArg some (by kernel_rfl))
  f287 := Tryz.func197.trans (congrArg some (by kernel_rfl))
  f316 := Tryz.func198.trans (congrArg some (by kernel_rfl))
  f317 := Tryz.func220.trans (congrArg some (by kernel_rfl))
  f318 := Tryz.func222.trans (congrArg some (by kernel_rfl))
  f319 := Tryz.func223.trans (congrArg some (by kernel_rfl))
  f320 := Tryz.func224.trans (congrArg some (by kernel_rfl))
  f321 := Tryz.func227.trans (congrArg some (by kernel_rfl))
  f322 := Tryz.func228.trans (congrArg some (by kernel_rfl))
  f337 := Tryz.func242.trans (congrArg some (by kernel_rfl))
  f338 := Tryz.func243.trans (congrArg some (by kernel_rfl))
  t0 := Tryz.underlying0
  a0 := Tryz.isAgg0
  z0 := Tryz.sizeOf0
  v0 := Tryz.zeroValue0
  t2 := Tryz.underlying2
  a2 := Tryz.isAgg2
  z2 := Tryz.sizeOf2
  v2 := Tryz.zeroValue2
  t3 := Tryz.underlying3
  a3 := Tryz.isAgg3
  z3 := Tryz.sizeOf3
  v3 := Tryz.zeroValue3
  t4 := Tryz.underlying4
  a4 := Tryz.isAgg4
  z4 := Tryz.sizeOf4
  v4 := Tryz.zeroValue4
  t5 := Tryz.underlying5
  a5 := Tryz.isAgg5
  z5 := Tryz.sizeOf5
  v5 := Tryz.zeroValue5
  t9 := Tryz.underlying9
  a9 := Tryz.isAgg9
  z9 := Tryz.sizeOf9
  v9 := Tryz.zeroValue9
  t20 := Tryz.underlying20
  a20 := Tryz.isAgg20
  z20 := Tryz.sizeOf20
  v20 := Tryz.zeroValue20
  t21 := Tryz.underlying21
  a21 := Tryz.isAgg21
  z21 := Tryz.sizeOf21
  v21 := Tryz.zeroValue21
  t37 := Tryz.underlying22
  a37 := Tryz.isAgg22
  z37 := Tryz.sizeOf22
  v37 := Tryz.zeroValue22
  t46 := Tryz.underlying149
  a46 := Tryz.isAgg149
  z46 := Tryz.sizeOf149
  v46 := Tryz.zeroValue149
  t51 := Tryz.underlying245
  a51 := Tryz.isAgg245
  z51 := Tryz.sizeOf245
  v51 := Tryz.zeroValue245
  t53 := Tryz.underlying207
  a53 := Tryz.isAgg207
  z53 := Tryz.sizeOf207
  v53 := Tryz.zeroValue207
  t75 := Tryz.underlying111
  a75 := Tryz.isAgg111
  z75 := Tryz.sizeOf111
  v75 := Tryz.zeroValue111
  t76 := Tryz.underlying112
  a76 := Tryz.isAgg112
  z76 := Tryz.sizeOf112
  v76 := Tryz.zeroValue112
  t85 := Tryz.underlying184
  a85 := Tryz.isAgg184
  z85 := Tryz.sizeOf184
  v85 := Tryz.zeroValue184
  t127 := Tryz.underlying251
  a127 := Tryz.isAgg251
  z127 := Tryz.sizeOf251
  v127 := Tryz.zeroValue251
  t143 := Tryz.underlying252
  a143 := Tryz.isAgg252
  z143 := Tryz.sizeOf252
  v143 := Tryz.zeroValue252
  t145 := Tryz.underlying254
  a145 := Tryz.isAgg254
  z145 := Tryz.sizeOf254
  v145 := Tryz.zeroValue254
  t167 := Tryz.underlying183
  a167 := Tryz.isAgg183
  z167 := Tryz.sizeOf183
  v167 := Tryz.zeroValue183
  t168 := Tryz.underlying186
  a168 := Tryz.isAgg186
  z168 := Tryz.sizeOf186
  v168 := Tryz.zeroValue186
  t171 := Tryz.underlying206
  a171 := Tryz.isAgg206
  z171 := Tryz.sizeOf206
  v171 := Tryz.zeroValue206
  t173 := Tryz.underlying210
  a173 := Tryz.isAgg210
  z173 := Tryz.sizeOf210
  v173 := Tryz.zeroValue210
  t175 := Tryz.underlying213
  a175 := Tryz.isAgg213
  z175 := Tryz.sizeOf213
  v175 := Tryz.zeroValue213
  t210 := Tryz.underlying216
  a210 := Tryz.isAgg216
  z210 := Tryz.sizeOf216
  v210 := Tryz.zeroValue216
  t212 := Tryz.underlying244
  a212 := Tryz.isAgg244
  z212 := Tryz.sizeOf244
  v212 := Tryz.zeroValue244
  t213 := Tryz.underlying246
  a213 := Tryz.isAgg246
  z213 := Tryz.sizeOf246
  t232 := Tryz.underlying278
  a232 := Tryz.isAgg278
  z232 := Tryz.sizeOf278
  v232 := Tryz.zeroValue278
  t233 := Tryz.underlying279
  a233 := Tryz.isAgg279
  z233 := Tryz.sizeOf279
  v233 := Tryz.zeroValue279
  g15 := by kernel_rfl
  g16 := by kernel_rfl
  g17 := by kernel_rfl
  g18 := by kernel_rfl
  g19 := by kernel_rfl
  t80 := Tryz.underlying283
  a80 := Tryz.isAgg283
  z80 := Tryz.sizeOf283
  v80 := Tryz.zeroValue283
  i0 := by kernel_rfl
  i2 := by kernel_rfl
  i3 := by kernel_rfl
  i4 := by kernel_rfl
  i5 := by kernel_rfl
  i9 := by kernel_rfl
  i20 := by kernel_rfl
  i21 := by kernel_rfl
  i37 := by kernel_rfl
  i46 := by kernel_rfl
  i51 := by kernel_rfl
  i53 := by kernel_rfl
  i75 := by kernel_rfl
  i76 := by kernel_rfl
  i80 := by kernel_rfl
  i85 := by kernel_rfl
  i127 := by kernel_rfl
  i143 := by kernel_rfl
  i145 := by kernel_rfl
  i167 := by kernel_rfl
  i168 := by kernel_rfl
  i171 := by kernel_rfl
  i173 := by kernel_rfl
  i175 := by kernel_rfl
  i210 := by kernel_rfl
  i212 := by kernel_rfl
  i232 := by kernel_rfl
  i233 := by kernel_rfl
  m15 := by kernel_rfl
  m16 := by kernel_rfl
  m17 := by kernel_rfl
  m18 := by kernel_rfl
  m19 := by kernel_rfl
  c0 := by kernel_rfl
  c2 := by kernel_rfl
  c3 := by kernel_rfl
  c4 := by kernel_rfl
  c5 := by kernel_rfl
  c9 := by kernel_rfl
  c20 := by kernel_rfl
  c21 := by kernel_rfl
  c37 := by kernel_rfl
  c46 := by kernel_rfl
  c51 := by kernel_rfl
  c53 := by kernel_rfl
  c75 := by kernel_rfl
  c76 := by kernel_rfl
  c80 := by kernel_rfl
  c85 := by kernel_rfl
  c127 := by kernel_rfl
  c143 := by kernel_rfl
  c145 := by kernel_rfl
  c167 := by kernel_rfl
  c168 := by kernel_rfl
  c171 := by kernel_rfl
  c173 := by kernel_rfl
  c175 := by kernel_rfl
  c210 := by kernel_rfl
  c212 := by kernel_rfl
  c213 := by kernel_rfl
  c232 := by kernel_rfl
  c233 := by kernel_rfl }
theorem Tryz.strconv_Atoi_ok (s : ByteArray) (hmax : s.size ≤ 9223372036854775806) (v : Int) (h : Lib.atoiAll s.data.toList = .ok v) (w : World) :
    Calls Tryz.prog 74 #[.string s] w fun e w' => e = .returned (.tuple #[.int .i64 v, .nilIface]) ∧ (w' = w ∨ ∃ t, w' = Lib.bytesWorld w 5 t) := Any.strconv_Atoi_ok Tryz.laysC172 s hmax v h w
theorem Tryz.strconv_Atoi_syntax (s : ByteArray) (hlim : s.size ≤ 281474976710656) (h : Lib.atoiAll s.data.toList = Lib.atoiAll []) (ev : Value) (w : World) (hv : w.cell? ⟨1, 0, none⟩ = some ev) (hev : ev = .nilIface ∨ ∃ te pe, ev = .iface te pe) :
    Calls Tryz.prog 74 #[.string s] w fun e w' => ∃ N, e = .returned (.tuple #[.int .i64 (0), .iface 186 (.pointer (some ⟨N, 0, none⟩))]) ∧ w.heap.size ≤ N ∧ w'.heap[N]? = some (.cells #[.string ⟨#[65, 116, 111, 105]⟩, .string s, ev] 216 (0, 0)) ∧ Below w.heap.size w w' := Any.strconv_Atoi_syntax Tryz.laysC172 s hlim h ev w hv hev
theorem Tryz.strconv_Atoi_range (s : ByteArray) (hlim : s.size ≤ 281474976710656) (h : Lib.atoiAll s.data.toList = .range) (ev : Value) (w : World) (hv : w.cell? ⟨2, 0, none⟩ = some ev) (hev : ev = .nilIface ∨ ∃ te pe, ev = .iface te pe) :
    Calls Tryz.prog 74 #[.string s] w fun e w' => ∃ N, e = .returned (.tuple #[.int .i64 (Lib.atoiSat s.data.toList), .iface 186 (.pointer (some ⟨N, 0, none⟩))]) ∧ w.heap.size ≤ N ∧ w'.heap[N]? = some (.cells #[.string ⟨#[65, 116, 111, 105]⟩, .string s, ev] 216 (0, 0)) ∧ Below w.heap.size w w' := Any.strconv_Atoi_range Tryz.laysC172 s hlim h ev w hv hev
def Tryz.lays219_ren : Go.Shelf.Ren := ⟨fun | 219 => 157 | 217 => 163 | 225 => 194 | 224 => 195 | 267 => 196 | 266 => 200 | 314 => 226 | n => n, fun | 9 => 9 | 3 => 3 | 4 => 4 | 5 => 5 | 46 => 149 | 146 => 248 | 51 => 245 | n => n, fun | 1 => 0 | n => n⟩
theorem Tryz.lays219 : Go.Proofs.Lays.n219 Tryz.prog Tryz.lays219_ren := {
  mixed := by kernel_rfl
  f217 := Tryz.func163.trans (congrArg some (by kernel_rfl))
  f219 := Tryz.func157.trans (congrArg some (by kernel_rfl))
  f224 := Tryz.func195.trans (congrArg some (by kernel_rfl))
  f225 := Tryz.func194.trans (congrArg some (by kernel_rfl))
  f266 := Tryz.func200.trans (congrArg some (by kernel_rfl))
  f267 := Tryz.func196.trans (congrArg some (by kernel_rfl))
  f314 := Tryz.func226.trans (congrArg some (by kernel_rfl))
  t3 := Tryz.underlying3
  a3 := Tryz.isAgg3
  z3 := Tryz.sizeOf3
  v3 := Tryz.zeroValue3
  t4 := Tryz.underlying4
  a4 := Tryz.isAgg4
  z4 := Tryz.sizeOf4
  v4 := Tryz.zeroValue4
  t5 := Tryz.underlying5
  a5 := Tryz.isAgg5
  z5 := Tryz.sizeOf5
  v5 := Tryz.zeroValue5
  t9 := Tryz.underlying9
  a9 := Tryz.isAgg9
  z9 := Tryz.sizeOf9
  v9 := Tryz.zeroValue9
  t46 := Tryz.underlying149
  a46 := Tryz.isAgg149
  z46 := Tryz.sizeOf149
  v46 := Tryz.zeroValue149
  t51 := Tryz.underlying245
  a51 := Tryz.isAgg245
  z51 := Tryz.sizeOf245
  v51 := Tryz.zeroValue245
  t146 := Tryz.underlying248
  a146 := Tryz.isAgg248
  z146 := Tryz.sizeOf248
  v146 := Tryz.zeroValue248
  g1 := by kernel_rfl }
theorem Tryz.stringslite_Index_one (s : ByteArray) (c : UInt8) (w : World) :
    Calls Tryz.prog 157 #[.string s, .string ⟨#[c]⟩] w fun e w' => e = .returned (.int .i64 (Lib.indexByte s.data.toList c)) ∧ w' = w := Any.stringslite_Index_one Tryz.lays219 s c w
def Tryz.lays143_ren : Go.Shelf.Ren := ⟨fun | 143 => 156 | 219 => 157 | 217 => 163 | 225 => 194 | 224 => 195 | 267 => 196 | 266 => 200 | 314 => 226 | n => n, fun | 9 => 9 | 3 => 3 | 4 => 4 | 5 => 5 | 46 => 149 | 146 => 248 | 51 => 245 | n => n, fun | 1 => 0 | n => n⟩
theorem Tryz.lays143 : Go.Proofs.Lays.n143 Tryz.prog Tryz.lays143_ren := {
  mixed := by kernel_rfl
  f143 := Tryz.func156.trans (congrArg some (by kernel_rfl))
  f217 := Tryz.func163.trans (congrArg some (by kernel_rfl))
  f219 := Tryz.func157.trans (congrArg some (by kernel_rfl))
  f224 := Tryz.func195.trans (congrArg some (by kernel_rfl))
  f225 := Tryz.func194.trans (congrArg some (by kernel_rfl))
  f266 := Tryz.func200.trans (congrArg some (by kernel_rfl))
  f267 := Tryz.func196.trans (congrArg some (by kernel_rfl))
  f314 := Tryz.func226.trans (congrArg some (by kernel_rfl))
  t3 := Tryz.underlying3
  a3 := Tryz.isAgg3
  z3 := Tryz.sizeOf3
  v3 := Tryz.zeroValue3
  t4 := Tryz.underlying4
  a4 := Tryz.isAgg4
  z4 := Tryz.sizeOf4
  v4 := Tryz.zeroValue4
  t5 := Tryz.underlying5
  a5 := Tryz.isAgg5
  z5 := Tryz.sizeOf5
  v5 := Tryz.zeroValue5
  t9 := Tryz.underlying9
  a9 := Tryz.isAgg9
  z9 := Tryz.sizeOf9
  v9 := Tryz.zeroValue9
  t46 := Tryz.underlying149
  a46 := Tryz.isAgg149
  z46 := Tryz.sizeOf149
  v46 := Tryz.zeroValue149
  t51 := Tryz.underlying245
  a51 := Tryz.isAgg245
  z51 := Tryz.sizeOf245
  v51 := Tryz.zeroValue245
  t146 := Tryz.underlying248
  a146 := Tryz.isAgg248
  z146 := Tryz.sizeOf248
  v146 := Tryz.zeroValue248
  g1 := by kernel_rfl }
theorem Tryz.strings_Index_one (s : ByteArray) (c : UInt8) (w : World) :
    Calls Tryz.prog 156 #[.string s, .string ⟨#[c]⟩] w fun e w' => e = .returned (.int .i64 (Lib.indexByte s.data.toList c)) ∧ w' = w := Any.strings_Index_one Tryz.lays143 s c w
def Tryz.lays138_ren : Go.Shelf.Ren := ⟨fun | 138 => 155 | 195 => 192 | 218 => 193 | 143 => 156 | 219 => 157 | 217 => 163 | 225 => 194 | 224 => 195 | 267 => 196 | 266 => 200 | 314 => 226 | n => n, fun | 9 => 9 | 3 => 3 | 4 => 4 | 5 => 5 | 0 => 0 | 46 => 149 | 146 => 248 | 51 => 245 | n => n, fun | 1 => 0 | n => n⟩
theorem Tryz.lays138 : Go.Proofs.Lays.n138 Tryz.prog Tryz.lays138_ren := {
  mixed := by kernel_rfl
  f138 := Tryz.func155.trans (congrArg some (by kernel_rfl))
  f143 := Tryz.func156.trans (congrArg some (by kernel_rfl))
  f195 := Tryz.func192.trans (congrArg some (by kernel_rfl))
  f217 := Tryz.func163.trans (congrArg some (by kernel_rfl))
  f218 := Tryz.func193.trans (congrArg some (by kernel_rfl))
  f219 := Tryz.func157.trans (congrArg some (by kernel_rfl))
  f224 := Tryz.func195.trans (congrArg some (by kernel_rfl))
  f225 := Tryz.func194.trans (congrArg some (by kernel_rfl))
  f266 := Tryz.func200.trans (congrArg some (by kernel_rfl))
  f267 := Tryz.func196.trans (congrArg some (by kernel_rfl))
  f314 := Tryz.func226.trans (congrArg some (by kernel_rfl))
  t0 := Tryz.underlying0
  a0 := Tryz.isAgg0
  z0 := Tryz.sizeOf0
  v0 := Tryz.zeroValue0
  t3 := Tryz.underlying3
  a3 := Tryz.isAgg3
  z3 := Tryz.sizeOf3
  v3 := Tryz.zeroValue3
  t4 := Tryz.underlying4
  a4 := Tryz.isAgg4
  z4 := Tryz.sizeOf4
  v4 := Tryz.zeroValue4
  t5 := Tryz.underlying5
  a5 := Tryz.isAgg5
  z5 := Tryz.sizeOf5
  v5 := Tryz.zeroValue5
  t9 := Tryz.underlying9
  a9 := Tryz.isAgg9
  z9 := Tryz.sizeOf9
  v9 := Tryz.zeroValue9
  t46 := Tryz.underlying149
  a46 := Tryz.isAgg149
  z46 := Tryz.sizeOf149
  v46 := Tryz.zeroValue149
  t51 := Tryz.underlying245
  a51 := Tryz.isAgg245
  z51 := Tryz.sizeOf245
  v51 := Tryz.zeroValue245
  t146 := Tryz.underlying248
  a146 := Tryz.isAgg248
  z146 := Tryz.sizeOf248
  v146 := Tryz.zeroValue248
  g1 := by kernel_rfl }
theorem Tryz.strings_Count_one (s : ByteArray) (c : UInt8) (w : World) :
    Calls Tryz.prog 155 #[.string s, .string ⟨#[c]⟩] w fun e w' => e = .returned (.int .i64 (Lib.countByte s.data.toList c)) ∧ w' = w := Any.strings_Count_one Tryz.lays138 s c w
end Go.Proofs
end
section
namespace Go.Av.F
open Go Go.Av Go.Proofs Go.Proofs.Tryz Go.RowKit
set_option linter.unusedSimpArgs false
set_option linter.unusedVariables false
set_option maxRecDepth 100000
theorem str_rel {w : World} {Z : Addr → Prop} {γ : Gm} {s : List UInt8} {x : Value} (h : AVRel w Z γ (.str s) x) : x = .string ⟨s.toArray⟩ := by cases h; rfl
theorem int_rel {w : World} {Z : Addr → Prop} {γ : Gm} {k : IntKind} {n : Int} {x : Value} (h : AVRel w Z γ (.int k n) x) : x = .int k n := by cases h; rfl
theorem idx_ge (c : UInt8) : ∀ (s : List UInt8), -1 ≤ Lib.indexByte s c
  | [] => by simp [Lib.indexByte]
  | x :: r => by
    have := idx_ge c r
    simp only [Lib.indexByte]
    repeat' split
    all_goals omega
theorem findB_idx (c : UInt8) : ∀ (s : List UInt8) (i : Int), findB c s i = if Lib.indexByte s c = -1 then -1 else i + Lib.indexByte s c
  | [], i => by simp [findB, Lib.indexByte]
  | x :: r, i => by
    have h1 := findB_idx c r (i + 1)
    have h2 := idx_ge c r
    simp only [findB, Lib.indexByte]
    by_cases hx : x = c
    · simp [hx]
    · have : (x == c) = false := by simpa using hx
      simp only [hx, this, if_false, h1, beq_iff_eq, Bool.false_eq_true]
      split
      · simp
      · rw [if_neg (by omega)]
        omega
theorem findB_lib (c : UInt8) (s : List UInt8) : Lib.indexByte s c = findB c s 0 := by
  have := findB_idx c s 0
  rw [this]
  split <;> omega
theorem idxByteC (s : List UInt8) (c : UInt8) : CV prog 117 [.str s, .int .u8 (c.toNat : Int)] (.int .i64 (findB c s 0)) := by
  refine cv_of_calls0 fun w Z vs hv hg hz => ?_
  obtain ⟨x, y, rfl, h1, h2⟩ := crel2 hv
  rw [str_rel h1, int_rel h2]
  refine (Tryz.strings_IndexByte _ _ w).mono ?_
  rintro e w' ⟨rfl, rfl⟩
  have e1 : ((c.toNat : Int).toNat).toUInt8 = c := by simp
  exact ⟨_, rfl, by rw [e1, ← findB_lib]; exact .int _ _ _, .refl _ _⟩
theorem idxStrC (s : List UInt8) (c : UInt8) : CV prog 156 [.str s, .str [c]] (.int .i64 (findB c s 0)) := by
  refine cv_of_calls0 fun w Z vs hv hg hz => ?_
  obtain ⟨x, y, rfl, h1, h2⟩ := crel2 hv
  rw [str_rel h1, str_rel h2]
  refine (Tryz.strings_Index_one _ c w).mono ?_
  rintro e w' ⟨rfl, rfl⟩
  exact ⟨_, rfl, by rw [← findB_lib]; exact .int _ _ _, .refl _ _⟩
theorem idxSlC (s : List UInt8) (c : UInt8) : CV prog 157 [.str s, .str [c]] (.int .i64 (findB c s 0)) := by
  refine cv_of_calls0 fun w Z vs hv hg hz => ?_
  obtain ⟨x, y, rfl, h1, h2⟩ := crel2 hv
  rw [str_rel h1, str_rel h2]
  refine (Tryz.stringslite_Index_one _ c w).mono ?_
  rintro e w' ⟨rfl, rfl⟩
  exact ⟨_, rfl, by rw [← findB_lib]; exact .int _ _ _, .refl _ _⟩
theorem cntC (s : List UInt8) (c : UInt8) : CV prog 155 [.str s, .str [c]] (.int .i64 (s.count c : Nat)) := by
  refine cv_of_calls0 fun w Z vs hv hg hz => ?_
  obtain ⟨x, y, rfl, h1, h2⟩ := crel2 hv
  rw [str_rel h1, str_rel h2]
  refine (Tryz.strings_Count_one _ c w).mono ?_
  rintro e w' ⟨rfl, rfl⟩
  exact ⟨_, rfl, .int _ _ _, .refl _ _⟩
theorem below_grow (w : World) (k : Nat) (os : Array Obj) : Below w.heap.size w (Go.Sort.grow (w.drewN k) os) :=
  ⟨rfl, rfl, rfl, by simp [Go.Sort.grow, World.drewN], fun i hi => by
    show ((w.drewN k).heap ++ os)[i]? = _
    rw [Array.getElem?_append_left (by simpa [World.drewN] using hi)]
    rfl⟩
theorem itoaC (n : Int) (h0 : -9223372036854775808 ≤ n) (h1 : n ≤ 9223372036854775807) : CV prog 62 [.int .i64 n] (.str (Lib.itoa n)) := by
  refine cv_of_calls0 fun w Z vs hv hg hz => ?_
  obtain ⟨x, rfl, hx⟩ := crel1 hv
  rw [int_rel hx]
  have htab : Lib.TabIs prog w "internal/strconv.uint64pow10" .u64 Lib.pow10Tab := by
    have hgn : prog.globalNamed "internal/strconv.uint64pow10" = some 3 := by kernel_rfl
    obtain ⟨ty, fz, hh⟩ := gl_var hg (g := 3) (cs := Lib.pow10Tab.map (AV.int .u64)) (by unfold gtab; rfl) (Lib.pow10Tab.map fun z => Value.int .u64 z) (by simp) (fun x j hj hr => by
      simp only [List.getD_eq_getElem?_getD, List.getElem?_map] at hr ⊢
      simp only [List.length_map] at hj
      rw [List.getElem?_eq_getElem hj] at hr ⊢
      exact int_rel hr) (by simp [Lib.pow10Tab])
    unfold Lib.TabIs World.var?
    rw [hgn]
    simp only [Option.bind_some, hh]
  refine (Tryz.strconv_Itoa n h0 h1 w htab).mono ?_
  rintro e w' ⟨rfl, k, os, rfl⟩
  exact ⟨_, rfl, .str _ _, below_grow _ _ _⟩
def atoiV (s : List UInt8) : Int := match Lib.atoiAll s with
  | .ok v => v
  | .range => Lib.atoiSat s
  | _ => 0
def atoiK (s : List UInt8) : Bool := match Lib.atoiAll s with
  | .ok _ => true
  | _ => false
def errA (b : Bool) : AV := if b then .nili else .ifc
theorem gl_ifc {w : World} {Z : Addr → Prop} (h : GlR w Z) {g : Nat} (hg : gtab g = some [.ifc]) : ∃ t v, w.cell? ⟨g, 0, none⟩ = some (.iface t v) := by
  obtain ⟨h1, _, _⟩ := h g _ hg
  generalize hp : (Value.pointer (some ⟨g, 0, none⟩)) = u at h1
  cases h1 with
  | elm _ _ A vf hA hz hc hr =>
    injection hp with hp; injection hp with hp; subst hp
    have c0 := hc 0 (by simp)
    have r0 := hr 0 (by simp)
    simp only [List.getD_cons_zero] at r0
    generalize vf 0 = x at c0 r0
    cases r0 with
    | ifc _ t v => exact ⟨t, v, by simpa [Addr.at] using c0⟩
theorem atoiC (s : List UInt8) (hl : s.length ≤ 281474976710656) : CV prog 74 [.str s] (.tup [.int .i64 (atoiV s), errA (atoiK s)]) := by
  refine cv_of_calls0 (fun w Z vs hv hg hz => ?_) (hcv := by unfold errA; split <;> simp [clA])
  obtain ⟨x, rfl, hx⟩ := crel1 hv
  rw [str_rel hx]
  have tup : ∀ {w : World} {a b : AV} {p q : Value}, AVRel w Z noG a p → AVRel w Z noG b q → AVRel w Z noG (.tup [a, b]) (.tuple #[p, q]) := fun h1 h2 => .tup _ _ _ rfl fun j hj => by
    match j, hj with
    | 0, _ => exact h1
    | 1, _ => exact h2
  have hsz : (⟨s.toArray⟩ : ByteArray).size = s.length := by simp [ByteArray.size]
  unfold atoiV atoiK
  rcases hA : Lib.atoiAll s with v | _ | _
  · refine (Tryz.strconv_Atoi_ok ⟨s.toArray⟩ (by rw [hsz]; omega) v (by simpa using hA) w).mono ?_
    rintro e w' ⟨rfl, hw⟩
    refine ⟨_, rfl, tup (.int _ _ _) (.nili _), ?_⟩
    rcases hw with rfl | ⟨t, rfl⟩
    · exact .refl _ _
    · unfold Lib.bytesWorld
      refine ⟨rfl, rfl, rfl, ?_, fun k hk => ?_⟩
      · show w.heap.size ≤ (Array.modify _ _ _).size
        rw [Array.size_modify]
        refine Nat.le_of_lt ?_
        show w.heap.size < (w.drew.heap.push _).size
        rw [Array.size_push]
        exact Nat.lt_succ_self _
      · show (Array.modify _ w.heap.size _)[k]? = _
        rw [Array.getElem?_modify, if_neg (by omega)]
        exact Below.heap_alloc w.drew _ k hk
  · obtain ⟨te, pe, hc⟩ := gl_ifc hg (g := 1) (by unfold gtab; rfl)
    refine (Tryz.strconv_Atoi_syntax ⟨s.toArray⟩ (by rw [hsz]; omega) hA _ w hc (.inr ⟨te, pe, rfl⟩)).mono ?_
    rintro e w' ⟨N, rfl, _, _, hb⟩
    exact ⟨_, rfl, tup (.int _ _ _) (.ifc _ _ _), hb⟩
  · obtain ⟨te, pe, hc⟩ := gl_ifc hg (g := 2) (by unfold gtab; rfl)
    refine (Tryz.strconv_Atoi_range ⟨s.toArray⟩ (by rw [hsz]; omega) (by simpa using hA) _ w hc (.inr ⟨te, pe, rfl⟩)).mono ?_
    rintro e w' ⟨N, rfl, _, _, hb⟩
    exact ⟨_, rfl, tup (.int _ _ _) (.ifc _ _ _), hb⟩
end Go.Av.F
end
section
namespace Go.Av.F
open Go Go.Av Go.Proofs Go.Proofs.Tryz
set_option linter.unusedSimpArgs false
set_option linter.unusedVariables false
set_option maxRecDepth 100000
def cut1 (c : UInt8) (s : List UInt8) : List UInt8 × List UInt8 × Bool := if findB c s 0 < 0 then (s, [], false) else (s.take (findB c s 0).toNat, s.drop ((findB c s 0).toNat + 1), true)
theorem slCutC (s : List UInt8) (c : UInt8) (hs : s.length ≤ 1048576) : CV prog 114 [.str s, .str [c]] (.tup [.str (cut1 c s).1, .str (cut1 c s).2.1, .bool (cut1 c s).2.2]) := by
  obtain ⟨R, hR⟩ : ∃ R, cut1 c s = R := ⟨_, rfl⟩
  rw [hR]
  unfold cut1 at hR
  have hlt := findB_lt c s 0 (by omega)
  have hge := findB_ge c s 0 (by omega)
  have fc := idxSlC s c
  generalize findB c s 0 = k at *
  refine cvx func114 [] ntmps114 rfl rfl rfl ?_
  simp -implicitDefEqProofs
  refine fc.call ?_
  by_cases h : k < 0
  · rw [if_pos h] at hR
    have h' : ¬ 0 ≤ k := by omega
    simp -implicitDefEqProofs [h', ← hR]
  · rw [if_neg h] at hR
    have h' : 0 ≤ k := by omega
    have e1 := i64w (k + 1) (by omega) (by omega)
    have d1 : (k + 1).toNat = k.toNat + 1 := by omega
    have d2 : List.take (s.length - (k.toNat + 1)) (List.drop (k.toNat + 1) s) = List.drop (k.toNat + 1) s := List.take_of_length_le (by simp)
    simp -implicitDefEqProofs [h', e1, d1, d2, ← hR]
    repeat' first | with_reducible refine And.intro ?_ ?_ | omega
theorem cutC (s : List UInt8) (c : UInt8) (hs : s.length ≤ 1048576) : CV prog 73 [.str s, .str [c]] (.tup [.str (cut1 c s).1, .str (cut1 c s).2.1, .bool (cut1 c s).2.2]) := by
  refine cvx func73 [] ntmps73 rfl rfl rfl ?_
  simp -implicitDefEqProofs
  refine (slCutC s c hs).call ?_
  simp -implicitDefEqProofs
theorem cutR_find (c : UInt8) : ∀ (s cur : List UInt8), cutR c s cur = if findB c s 0 < 0 then [cur ++ s] else (cur ++ s.take (findB c s 0).toNat) :: cutR c (s.drop ((findB c s 0).toNat + 1)) []
  | [], cur => by simp [cutR, findB]
  | x :: r, cur => by
    have ih := cutR_find c r (cur ++ [x])
    have h1 := findB_idx c r (0 + 1)
    have h2 := findB_idx c r 0
    have h3 := idx_ge c r
    simp only [cutR, findB]
    by_cases hx : x = c
    · simp [hx]
    · simp only [hx, if_false]
      rw [ih, h1, h2]
      by_cases h : Lib.indexByte r c = -1
      · simp [h]
      · have e : (0 + 1 + Lib.indexByte r c).toNat = (0 + Lib.indexByte r c).toNat + 1 := by omega
        rw [if_neg h, if_neg h, e, if_neg (by omega), if_neg (by omega)]
        simp
theorem count_find (c : UInt8) : ∀ (s : List UInt8), s.count c = if findB c s 0 < 0 then 0 else (s.drop ((findB c s 0).toNat + 1)).count c + 1
  | [] => by simp [findB]
  | x :: r => by
    have ih := count_find c r
    have h1 := findB_idx c r (0 + 1)
    have h2 := findB_idx c r 0
    have h3 := idx_ge c r
    simp only [findB]
    by_cases hx : x = c
    · simp [hx]
    · have hc : List.count c (x :: r) = List.count c r := List.count_cons_of_ne (fun h => hx h)
      simp only [hx, if_false]
      rw [hc, ih, h1, h2]
      by_cases h : Lib.indexByte r c = -1
      · simp [h]
      · have e : (0 + 1 + Lib.indexByte r c).toNat = (0 + Lib.indexByte r c).toNat + 1 := by omega
        rw [if_neg h, if_neg h, e, if_neg (by omega), if_neg (by omega)]
        simp
theorem count_len (c : UInt8) (s : List UInt8) : s.count c ≤ s.length := List.count_le_length
theorem gsplitO (s : List UInt8) (c : UInt8) (hs : s.length ≤ 1048576) : ACall prog 113 [.str s, .str [c], .int .i64 0, .int .i64 (-1)] [] (fun r L' => r = .sl 900 0 (cutR c s []).length ∧ L' = [(900, ⟨1, (cutR c s []).map strR⟩)]) := by
  obtain ⟨R, hR⟩ : ∃ R, cutR c s [] = R := ⟨_, rfl⟩
  rw [hR]
  obtain ⟨N, hN⟩ : ∃ N, s.count c = N := ⟨_, rfl⟩
  have hNl := count_len c s
  have cc := cntC s c
  rw [hN] at cc hNl
  have e1 := i64w ((N : Int) + 1) (by omega) (by omega)
  have e2 := i64w ((s.length : Int) + 1) (by omega) (by omega)
  have e3 : ¬ (s.length : Int) + 1 < (N : Int) + 1 := by omega
  refine acx func113 [] ntmps113 rfl rfl rfl ?_
  simp -implicitDefEqProofs
  refine cc.call ?_
  have e4 : ((N : Int) + 1).toNat = N + 1 := by omega
  have e5 : (N : Int) + 1 - 1 = N := by omega
  have e6 := i64w (N : Int) (by omega) (by omega)
  simp -implicitDefEqProofs [e1, e2, e3, e4, e5, e6]
  refine ⟨⟨by omega, by omega⟩, ?_⟩
  refine ev_lo (X := Nat × List UInt8 × List (List UInt8)) [0, 1, 2, 3, 9, 10] [(31, 900)] (fun x => [(0, .str x.2.1), (9, .sl 900 0 (N + 1)), (10, .int .i64 x.1)]) (fun x => [(900, ⟨1, x.2.2.map strR⟩)]) (fun x => N - x.1)
    (fun x => x.1 ≤ N ∧ x.2.2.length = N + 1 ∧ x.2.1.count c + x.1 = N ∧ x.2.1.length ≤ s.length ∧ x.2.2.take x.1 ++ cutR c x.2.1 [] = R) (0, s, List.replicate (N + 1) []) ⟨by simp, by simp, by simp [hN], by simp, by simpa using hR⟩ ?_ (he := by simp [obOf, strR])
  rintro ⟨i, t, ps⟩ ⟨hi, hpl, hct, htl, hd⟩
  simp only at hi hpl hct htl hd
  have hcf := count_find c t
  have hcr := cutR_find c t []
  have fc := idxStrC t c
  have hlt := findB_lt c t 0 (by omega)
  have hge := findB_ge c t 0 (by omega)
  by_cases h1 : i < N
  · have h1' : (i : Int) < N := by omega
    generalize findB c t 0 = k at *
    have hk : ¬ k < 0 := by
      intro hk
      rw [if_pos hk] at hcf
      omega
    rw [if_neg hk] at hcf hcr
    have w1 := i64w k (by omega) (by omega)
    have w2 := i64w (k + 1) (by omega) (by omega)
    have w3 := i64w ((i : Int) + 1) (by omega) (by omega)
    have d1 : (k + 1).toNat = k.toNat + 1 := by omega
    have d2 : List.take (t.length - (k.toNat + 1)) (List.drop (k.toNat + 1) t) = List.drop (k.toNat + 1) t := List.take_of_length_le (by simp)
    simp -implicitDefEqProofs [h1']
    refine fc.call ?_
    simp -implicitDefEqProofs [h1', hk, w1, w2, w3, d1, d2, hpl]
    refine ⟨⟨by omega, by omega⟩, by omega, by omega, ⟨by omega, by omega⟩, ?_⟩
    refine nx (i + 1, t.drop (k.toNat + 1), ps.set i (t.take k.toNat)) [(900, 900)] ⟨by simp only; omega, by simp only [List.length_set]; omega, by simp only; omega, by simp only [List.length_drop]; omega, ?_⟩ (by simp only; omega) (h4 := ?_)
    · show List.take (i + 1) (ps.set i (List.take k.toNat t)) ++ cutR c (List.drop (k.toNat + 1) t) [] = R
      rw [takeS (x := t.take k.toNat) (by rw [List.getElem?_set_self (by omega)]), List.take_set, List.set_eq_of_length_le (by simp; omega), List.append_assoc]
      rw [hcr] at hd
      simpa using hd
    · obtain ⟨q, hq⟩ : ∃ q, ps[i]? = some q := ⟨_, List.getElem?_eq_getElem (by omega)⟩
      simp [obOf, w3, List.map_set, strR, renL_strR, hq]
  · have : i = N := by omega
    subst this
    have h1' : ¬ (i : Int) < i := by omega
    simp -implicitDefEqProofs [hpl]
    have hk : findB c t 0 < 0 := by
      rcases hge with h | h
      · omega
      · rw [if_neg (by omega)] at hcf
        omega
    rw [if_pos hk] at hcr
    rw [hcr] at hd
    have hps : ps.set i t = R := by
      rw [← hd]
      have h2 : ps.set i t = (ps.set i t).take (i + 1) := (List.take_of_length_le (by simp [hpl])).symm
      rw [h2, takeS (x := t) (by simp [hpl]), List.take_set, List.set_eq_of_length_le (by simp; omega)]
      simp
    refine ⟨by omega, ⟨by omega, by omega⟩, ?_, ?_⟩
    · rw [← hps, List.map_set]
      simp [strR]
    · rw [e1, ← hps]
      simp [hpl]
theorem gsplitC (s : List UInt8) (c : UInt8) (hs : s.length ≤ 1048576) : CV prog 113 [.str s, .str [c], .int .i64 0, .int .i64 (-1)] (.lst 1 ((cutR c s []).map strR)) := by
  refine CV.of_frz (gsplitO s c hs) (fun r L' hR => ?_)
  obtain ⟨rfl, rfl⟩ := hR
  refine ⟨by simp, by simp, ?_, ?_⟩
  · simp [clR, strR, clL, clA]
  · simp [frzAll, List.take_of_length_le]
    exact impA_refl _
theorem splitC (s : List UInt8) (c : UInt8) (hs : s.length ≤ 1048576) : CV prog 72 [.str s, .str [c]] (.lst 1 ((cutR c s []).map strR)) := by
  refine cvx func72 [] ntmps72 rfl rfl rfl ?_
  simp -implicitDefEqProofs
  refine (gsplitC s c hs).call ?_
  simp -implicitDefEqProofs
theorem ddig_dec : ∀ (k : Nat) (out : List UInt8), ddig k out = Lib.decDigits k ++ out := by
  intro k
  induction k using Nat.strongRecOn with
  | ind k ih =>
    intro out
    rw [ddig, Lib.decDigits]
    by_cases h : k < 10
    · rw [dif_pos (by omega), dif_pos h]
      rfl
    · rw [dif_neg (by omega), dif_neg h, ih _ (by omega)]
      simp
theorem itoa_nat (k : Nat) : Lib.itoa (k : Int) = ddig k [] := by
  unfold Lib.itoa
  rw [if_neg (by omega), ddig_dec]
  simp
theorem isealC (s : List UInt8) (hs : s.length ≤ maxLen) : CV prog 64 [.str s] (.str (sealB s)) := by
  obtain ⟨R, hR⟩ : ∃ R, sealB s = R := ⟨_, rfl⟩
  rw [hR]
  have hml : maxLen = 9223372036854775807 := rfl
  have hlt := sumB_lt s (1 + s.length % 997) (by omega)
  have sc := isumC s hs
  refine cvx func64 [] ntmps64 rfl rfl rfl ?_
  unfold sealB at hR
  by_cases h : 400 < s.length
  · rw [if_pos h] at hR
    have h' : (400 : Int) < s.length := by omega
    simp -implicitDefEqProofs [h', ← hR]
  · rw [if_neg h] at hR
    have h' : ¬ (400 : Int) < s.length := by omega
    simp -implicitDefEqProofs [h']
    refine sc.call ?_
    generalize sumB s (1 + s.length % 997) = n at *
    have hl := ddig_len n []
    simp only [List.length_nil] at hl
    simp -implicitDefEqProofs
    refine (itoaC (n : Int) (by omega) (by omega)).call ?_
    rw [itoa_nat]
    simp -implicitDefEqProofs [← hR]
    omega
theorem cut1_open (s : List UInt8) : openB s = if (cut1 58 s).2.2 = true ∧ sealB (cut1 58 s).2.1 = s then ((cut1 58 s).2.1, true) else ([], false) := by
  unfold openB cut1
  by_cases h : findB 58 s 0 < 0
  · simp [h]
  · simp [h]
theorem cut1_len (c : UInt8) (s : List UInt8) : (cut1 c s).1.length ≤ s.length ∧ (cut1 c s).2.1.length ≤ s.length := by
  unfold cut1
  split <;> simp
  omega
theorem iopenC (s : List UInt8) (hs : s.length ≤ 1048576) : CV prog 71 [.str s] (.tup [.str (openB s).1, .bool (openB s).2]) := by
  obtain ⟨R, hR⟩ : ∃ R, openB s = R := ⟨_, rfl⟩
  rw [hR]
  have hml : maxLen = 9223372036854775807 := rfl
  rw [cut1_open] at hR
  have cc := cutC s 58 hs
  have cl := cut1_len 58 s
  generalize cut1 58 s = k at *
  obtain ⟨k1, k2, k3⟩ := k
  simp only at cc cl hR
  refine cvx func71 [] ntmps71 rfl rfl rfl ?_
  simp -implicitDefEqProofs
  refine cc.call ?_
  cases k3 with
  | false => simp -implicitDefEqProofs [← hR]
  | true =>
    simp -implicitDefEqProofs
    refine (isealC k2 (by omega)).call ?_
    by_cases h2 : sealB k2 = s
    · simp -implicitDefEqProofs [h2, ← hR]
    · simp -implicitDefEqProofs [h2, ← hR]
end Go.Av.F
end
