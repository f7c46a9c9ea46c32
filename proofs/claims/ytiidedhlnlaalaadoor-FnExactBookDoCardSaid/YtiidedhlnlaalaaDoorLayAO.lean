/- Lemmas for the proof, no statement of the seat; no conditions. -/
import Derived.Test.YtiidedhlnlaalaaDoorLayAN
import Derived.Test.YtiidedhlnlaalaaDoorProg
section
namespace Go.Av.F
open Go Go.Av Go.Proofs Go.Proofs.Tryd
set_option linter.unusedSimpArgs false
set_option linter.unusedVariables false
set_option maxRecDepth 100000
attribute [simp] DE.row PT.row intRow
attribute [simp] tt2 tt3 tt4 tt5 tt6 tt7 tt8 tt9 tt10 tt11 tt12 tt13 tt14 tt15 tt16 tt17 tt18 tt19 tt20 tt21 tt22 tt23 tt24 tt25 tt26 tt27 tt33 tt34 tt35 tt42 tt45 tt46 tt47 tt49 tt51 tt52 tt53 tt54 tt55 tt56 tt59 tt60 tt61 tt62 tt63 tt73 tt74 tt75 tt76 tt88 tt112 tt113 tt122 tt123 tt124 tt125 tt126 tt143 tt144 tt149 tt150 tt158 tt160 tt174 tt175 tt176 tt177 tt185 tt196 tt205 tt207 tt208 tt212 tt223 tt226 tt237 tt240 tt241 tt243 tt249 tt253 tt254 tt255 tt256 tt258 tt259 tt262 tt263 tt264 tt265 tt268 tt269 tt271 tt272 tt273 tt274 tt275 tt277 tt278 tt280 tt281 tt282 tt283
theorem cv_of {f : Nat} {args : List AV} {v : AV} (h : ACall prog f args [] (fun r L' => r = v ∧ L' = [])) (he : enters prog f = true := by kernel_rfl) (hca : clL args = true := by simp) (hcv : clA v = true := by simp) : CV prog f args v := ⟨he, hca, hcv, h⟩
end Go.Av.F
end
section
namespace Go.Av.F
open Go Go.Av Go.Proofs Go.Proofs.Tryd
set_option linter.unusedSimpArgs false
set_option linter.unusedVariables false
set_option maxRecDepth 100000
attribute [simp] shL sh1 beqC beq1
@[simp] theorem eqTyPtr : eqTy prog 123 = true := by
  have g : prog.eqGuardType prog.depth 123 = false := by kernel_rfl
  have s : prog.stoodInHeld 123 = false := by kernel_rfl
  simp -implicitDefEqProofs [eqTy, g, eqOk, eqFs, underlying123, underlying3, s, shL, sh1]
end Go.Av.F
end
section
namespace Go.Av.F
open Go Go.Av Go.Proofs Go.Proofs.Tryd
set_option linter.unusedSimpArgs false
set_option linter.unusedVariables false
set_option maxRecDepth 100000
def mdig (k : Nat) (out : List UInt8) : List UInt8 := if h : k = 0 then out else mdig (k / 10) (UInt8.ofNat (48 + k % 10) :: out)
termination_by k
theorem mdig_pos {k : Nat} (h : 0 < k) (out : List UInt8) : mdig k out = mdig (k / 10) (UInt8.ofNat (48 + k % 10) :: out) := by
  rw [mdig, dif_neg (by omega)]
theorem mdig_zero (out : List UInt8) : mdig 0 out = out := by
  rw [mdig, dif_pos rfl]
def mtB (k : Nat) : List UInt8 := if k = 0 then [109, 48] else 109 :: mdig k []
theorem markTextC (k : Nat) (hk : k < 1000000000) : CV prog 113 [.int .i64 k] (.str (mtB k)) := by
  obtain ⟨R, hR⟩ : ∃ R, mtB k = R := ⟨_, rfl⟩
  rw [hR]
  refine cvx func113 [] ntmps113 rfl rfl rfl ?_
  by_cases h0 : k = 0
  · subst h0
    simp [mtB] at hR
    simp -implicitDefEqProofs [← hR]
  · rw [mtB, if_neg h0] at hR
    simp -implicitDefEqProofs [h0]
    refine ev_lp (X := Nat × List UInt8) [0, 3] [] (fun x => [(0, .int .i64 x.1), (3, .str x.2)]) (fun _ => []) (fun x => x.1) (fun x => x.2.length + x.1 ≤ k ∧ 109 :: mdig x.1 x.2 = R) (k, []) (by simp [hR]) ?_
    rintro ⟨j, out⟩ ⟨hj, hm⟩
    simp only at hj hm
    by_cases hz : j = 0
    · subst hz
      rw [mdig_zero] at hm
      simp -implicitDefEqProofs [hm]
      omega
    · rw [mdig_pos (by omega)] at hm
      have hj' : 0 < j := by omega
      have e1 := i64w (48 + (j : Int) % 10) (by omega) (by omega)
      have e3 := i64w ((j : Int) / 10) (by omega) (by omega)
      have e2 : byteOf [.int .u8 (IntKind.u8.wrap (48 + (j : Int) % 10))] = 48 + UInt8.ofNat (j % 10) := by
        have : IntKind.u8.wrap (48 + (j : Int) % 10) = ((48 + j % 10 : Nat) : Int) := by
          show (48 + (j : Int) % 10) % 256 = _
          omega
        rw [this]
        show UInt8.ofNat (((48 + j % 10 : Nat) : Int)).toNat = _
        rw [Int.toNat_natCast, UInt8.ofNat_add]
        rfl
      have t1 : (j : Int).tmod 10 = (j : Int) % 10 := Int.tmod_eq_emod_of_nonneg (by omega)
      have t2 : (j : Int).tdiv 10 = (j : Int) / 10 := Int.tdiv_eq_ediv_of_nonneg (by omega)
      simp -implicitDefEqProofs [hj', hz, t1, t2, e1, e3]
      refine ⟨isU8_wrap _, by omega, ?_⟩
      refine nx (j / 10, UInt8.ofNat (48 + j % 10) :: out) [] ?_ ?_ (h4 := ?_)
      · refine ⟨?_, hm⟩
        simp only [List.length_cons]
        omega
      · simp only
        omega
      · simp [t1, t2, e1, e2, e3]
theorem markTextI (z : Int) (k : Nat) (hz : z = k) (hk : k < 1000000000) : CV prog 113 [.int .i64 z] (.str (mtB k)) := hz ▸ markTextC k hk
def mkRow (k : Nat) : BS := ⟨mtB k, ((k + 1 : Nat) : Int), mtB (k + 2), (List.range 8).map fun j => mtB (k + 3 + j)⟩
def mkL (n : Nat) : List BS := (List.range n).map fun i => mkRow (1 + 11 * i)
theorem markSetsC (bs : List BS) (hl : bs.length ≤ 2000000) (hB : ∀ b ∈ bs, b.bl.length = 8) :
    ACall prog 101 [.sl 1000 0 bs.length, .int .i64 1] [(1000, bkOb bs)] (fun r L' => r = .int .i64 (1 + 11 * (bs.length : Int)) ∧ L' = [(1000, bkOb (mkL bs.length))]) := by
  obtain ⟨n, hn⟩ : ∃ n, bs.length = n := ⟨_, rfl⟩
  rw [hn] at hl ⊢
  refine acx func101 [(13, [⟨0, [], [], [], []⟩, ⟨1, [], [], [], []⟩, ⟨2, [], [], [], []⟩, ⟨3, [], [], [], []⟩, ⟨5, [1000], [], [], []⟩, ⟨6, [], [], [], []⟩, ⟨4, [], [1000], [], []⟩, ⟨7, [], [], [], []⟩, ⟨8, [], [], [], []⟩])] ntmps101 rfl rfl rfl ?_
  simp -implicitDefEqProofs
  refine ev_lp (X := Nat × List BS) [0, 1, 5] [(1000, 1000)] (fun x => [(5, .int .i64 x.1), (1, .int .i64 (1 + 11 * (x.1 : Int)))]) (fun x => [(1000, bkOb x.2)]) (fun x => n - x.1)
    (fun x => x.1 ≤ n ∧ x.2.length = n ∧ (∀ b ∈ x.2, b.bl.length = 8) ∧ ∀ j, j < x.1 → x.2[j]? = some (mkRow (1 + 11 * j))) (0, bs) ⟨by omega, hn, hB, by omega⟩ ?_ (he := by simp [obOf])
  rintro ⟨i, cs⟩ ⟨hi, hc, hb, hm⟩
  simp only at hi hc hb hm
  by_cases h2 : i < n
  · obtain ⟨s, f1⟩ : ∃ s, cs[i]? = some s := ⟨_, List.getElem?_eq_getElem (by omega)⟩
    have h2' : (i : Int) < n := by omega
    have hil : i < cs.length := by omega
    have e1 := i64w (1 + 11 * (i : Int) + 1) (by omega) (by omega)
    have e2 := i64w (1 + 11 * (i : Int) + 1 + 1) (by omega) (by omega)
    have e3 := i64w (1 + 11 * (i : Int) + 1 + 1 + 1) (by omega) (by omega)
    simp -implicitDefEqProofs [h2', hil]
    refine (markTextI _ (1 + 11 * i) (by omega) (by omega)).call ?_
    simp -implicitDefEqProofs [hil, e1, e2, e3, f1, h2]
    refine (markTextI _ (1 + 11 * i + 2) (by omega) (by omega)).call ?_
    simp -implicitDefEqProofs [hil, e1, e2, e3, f1, h2]
    have f0 : cs[i] = s := (List.getElem?_eq_some_iff.1 f1).2
    have s8 : s.bl.length = 8 := hb s (List.mem_of_getElem? f1)
    have e5 : (⟨11, (List.map BS.row cs).set i (AV.str (mtB (1 + 11 * i)) :: AV.int IntKind.i64 (1 + 11 * (i : Int) + 1) :: AV.str (mtB (1 + 11 * i + 2)) :: List.map AV.str cs[i].bl)⟩ : Ob) = bkOb (cs.set i ⟨mtB (1 + 11 * i), 1 + 11 * i + 1, mtB (1 + 11 * i + 2), s.bl⟩) := by
      simp [bkOb, List.map_set, BS.row, f0]
    refine ev_lp (X := Nat × List BS) [0, 1, 5, 6] [(1000, 1000)] (fun x => [(6, .int .i64 x.1), (1, .int .i64 (1 + 11 * (i : Int) + 1 + 1 + 1 + x.1))]) (fun x => [(1000, bkOb x.2)]) (fun x => 8 - x.1)
      (fun x => x.1 ≤ 8 ∧ x.2.length = n ∧ (∀ b ∈ x.2, b.bl.length = 8) ∧ (∀ j, j < i → x.2[j]? = some (mkRow (1 + 11 * j))) ∧ ∃ t, x.2[i]? = some t ∧ t.name = mtB (1 + 11 * i) ∧ t.kind = 1 + 11 * i + 1 ∧ t.frm = mtB (1 + 11 * i + 2) ∧ ∀ q, q < x.1 → t.bl[q]? = some (mtB (1 + 11 * i + 3 + q)))
      (0, cs.set i ⟨mtB (1 + 11 * i), 1 + 11 * i + 1, mtB (1 + 11 * i + 2), s.bl⟩) ?_ ?_ (he := by simp [obOf, e5])
    · refine ⟨by omega, by simp [hc], ?_, ?_, ⟨mtB (1 + 11 * i), 1 + 11 * i + 1, mtB (1 + 11 * i + 2), s.bl⟩, ?_, rfl, rfl, rfl, by simp⟩
      · intro b hbm
        rcases List.mem_or_eq_of_mem_set hbm with h | rfl
        · exact hb b h
        · exact s8
      · intro j hj
        rw [List.getElem?_set_ne (by omega)]
        exact hm j hj
      · simp [hil]
    rintro ⟨j, ds⟩ ⟨hj, hd, hb', hm', t, g1, g2, g3, g4, g5⟩
    simp only at hj hd hb' hm' g1 g5
    have t8 : t.bl.length = 8 := hb' t (List.mem_of_getElem? g1)
    have hil' : i < ds.length := by omega
    have g0 : ds[i] = t := (List.getElem?_eq_some_iff.1 g1).2
    by_cases h3 : j < 8
    · have h3' : (j : Int) < 8 := by omega
      have e6 := i64w ((j : Int) + 1) (by omega) (by omega)
      have e7 := i64w (1 + 11 * (i : Int) + 1 + 1 + 1 + j + 1) (by omega) (by omega)
      simp -implicitDefEqProofs [h3', hil', g0, g1, h2]
      refine (markTextI _ (1 + 11 * i + 3 + j) (by omega) (by omega)).call ?_
      simp -implicitDefEqProofs [h3', hil', g0, g1, h2]
      refine ⟨by omega, ?_⟩
      have e9 := row_set t j (mtB (1 + 11 * i + 3 + j)) (by omega)
      refine nx (j + 1, ds.set i { t with bl := t.bl.set j (mtB (1 + 11 * i + 3 + j)) }) [(1000, 1000)] ?_ (by simp only; omega) (h4 := ?_)
      · refine ⟨by simp only; omega, by simp [hd], ?_, ?_, { t with bl := t.bl.set j (mtB (1 + 11 * i + 3 + j)) }, by simp [hil'], g2, g3, g4, ?_⟩
        · intro b hbm
          rcases List.mem_or_eq_of_mem_set hbm with h | rfl
          · exact hb' b h
          · simpa using t8
        · intro q hq
          simp only
          rw [List.getElem?_set_ne (by omega)]
          exact hm' q hq
        · intro q hq
          simp only at hq ⊢
          by_cases hqj : q = j
          · subst hqj
            simp [t8, h3]
          · rw [List.getElem?_set_ne (by omega)]
            exact g5 q (by omega)
      · have e10 : 1 + 11 * (i : Int) + 1 + 1 + 1 + j + 1 = 1 + 11 * (i : Int) + 1 + 1 + 1 + (j + 1) := by omega
        simp [obOf, e6, e7, e9]
        exact ⟨by rw [e10], by simp [bkOb, List.map_set]⟩
    · have : j = 8 := by omega
      subst this
      simp -implicitDefEqProofs
      have ht : t = mkRow (1 + 11 * i) := by
        obtain ⟨tn, tk, tf, tb⟩ := t
        simp only at g2 g3 g4 g5 t8
        have : tb = (List.range 8).map fun q => mtB (1 + 11 * i + 3 + q) := by
          refine List.ext_getElem? fun q => ?_
          by_cases hq : q < 8
          · rw [g5 q hq]
            simp [hq]
          · rw [List.getElem?_eq_none (by omega), List.getElem?_eq_none (by simp; omega)]
        subst this
        simp only [mkRow, BS.mk.injEq]
        exact ⟨g2, by omega, g4, trivial⟩
      have e8 := i64w ((i : Int) + 1) (by omega) (by omega)
      refine nx (i + 1, ds) [(1000, 1000)] ⟨by omega, hd, hb', ?_⟩ (by simp only; omega) (h4 := ?_)
      · intro j hj
        by_cases hji : j = i
        · subst hji
          exact ht ▸ g1
        · exact hm' j (by simp only at hj; omega)
      · have e10 : 1 + 11 * (i : Int) + 1 + 1 + 1 + 8 = 1 + 11 * ((i : Int) + 1) := by omega
        simp [obOf, e8]
        rw [e10]
  · have : i = n := by omega
    subst this
    have hcs : cs = mkL cs.length := by
      refine List.ext_getElem? fun q => ?_
      by_cases hq : q < cs.length
      · rw [hm q (by omega)]
        simp [mkL, hq]
      · rw [List.getElem?_eq_none (by omega), List.getElem?_eq_none (by simp [mkL]; omega)]
    simp -implicitDefEqProofs
    rw [hc] at hcs
    exact congrArg bkOb hcs
theorem markBookC (bs : List BS) (hl : bs.length ≤ 2000000) (hB : ∀ b ∈ bs, b.bl.length = 8) :
    ACall prog 48 [.agg [.sl 1000 0 bs.length], .int .i64 1] [(1000, bkOb bs)] (fun r L' => r = .int .i64 (1 + 11 * (bs.length : Int)) ∧ L' = [(1000, bkOb (mkL bs.length))]) := by
  refine acx func48 [] ntmps48 rfl rfl rfl ?_
  simp -implicitDefEqProofs
  refine callA_wh [(1000, .whole 1000)] (by kernel_rfl) (markSetsC bs hl hB) (by simp) (by simp) ⟨⟨bkOb bs, by simp, rfl, rowsMt_cl rfl (clR_bk bs)⟩, trivial⟩ (by simp) (by simp) ?_
  rintro r L' ⟨rfl, rfl⟩
  refine ⟨[], ⟨by simp, by simp, by simp, by simp, by simp⟩, ?_⟩
  simp only [afterS]
  simp -implicitDefEqProofs
theorem mkL_at {n i : Nat} (h : i < n) : (mkL n)[i]? = some (mkRow (1 + 11 * i)) := by simp [mkL, h]
theorem mkL_len (n : Nat) : (mkL n).length = n := by simp [mkL]
@[simp] theorem mkRow_n (k : Nat) : (mkRow k).name = mtB k := rfl
@[simp] theorem mkRow_k (k : Nat) : (mkRow k).kind = (k : Int) + 1 := by simp [mkRow]
@[simp] theorem mkRow_f (k : Nat) : (mkRow k).frm = mtB (k + 2) := rfl
@[simp] theorem mkRow_l (k : Nat) : (mkRow k).bl.length = 8 := by simp [mkRow]
@[simp] theorem mkRow_g (k j : Nat) (h : j < (mkRow k).bl.length) : (mkRow k).bl[j] = mtB (k + 3 + j) := by simp [mkRow]
theorem mkRow_row (k : Nat) : (mkRow k).row = .str (mtB k) :: .int .i64 ((k : Int) + 1) :: .str (mtB (k + 2)) :: (List.range 8).map fun j => AV.str (mtB (k + 3 + j)) := by
  simp [mkRow, BS.row]
theorem mkRow_at (k j : Nat) (h : j < 8) : (mkRow k).row[3 + j]? = some (.str (mtB (k + 3 + j))) := by
  rw [mkRow_row, show 3 + j = j + 1 + 1 + 1 by omega]
  simp [h]
theorem heldSetsC (n : Nat) (hl : n ≤ 2000000) : CV prog 102 [.lst 11 ((mkL n).map BS.row), .int .i64 1] (.int .i64 (1 + 11 * (n : Int))) := by
  have hn := mkL_len n
  refine cvx func102 [] ntmps102 rfl rfl rfl ?_
  simp -implicitDefEqProofs [hn]
  refine ev_lp (X := Nat) [0, 1, 5] [] (fun x => [(5, .int .i64 x), (1, .int .i64 (1 + 11 * (x : Int)))]) (fun x => []) (fun x => n - x) (fun x => x ≤ n) 0 (by omega) ?_
  rintro i hi
  by_cases h2 : i < n
  · have h2' : (i : Int) < n := by omega
    have f1 := mkL_at h2
    have hil : i < (mkL n).length := by omega
    have f0 : (mkL n)[i] = mkRow (1 + 11 * i) := (List.getElem?_eq_some_iff.1 f1).2
    have e1 := i64w (1 + 11 * (i : Int) + 1) (by omega) (by omega)
    have e2 := i64w (1 + 11 * (i : Int) + 1 + 1) (by omega) (by omega)
    have e3 := i64w (1 + 11 * (i : Int) + 1 + 1 + 1) (by omega) (by omega)
    have hr0 : 0 < (mkRow (1 + 11 * i)).row.length := by simp [mkRow_row]
    have hr1 : (mkRow (1 + 11 * i)).row.length = 11 := by simp [mkRow_row]
    simp -implicitDefEqProofs [h2', h2, hil, hn, f0, f1, hr1]
    refine (markTextI _ (1 + 11 * i) (by omega) (by omega)).call ?_
    simp -implicitDefEqProofs [h2', h2, hil, hn, f0, f1, e1, e2, e3, mkRow_row]
    refine (markTextI _ (1 + 11 * i + 2) (by omega) (by omega)).call ?_
    simp -implicitDefEqProofs [h2', h2, hil, hn, f0, f1, e1, e2, e3, mkRow_row]
    refine ev_lp (X := Nat) [0, 1, 5, 6] [] (fun x => [(6, .int .i64 x), (1, .int .i64 (1 + 11 * (i : Int) + 1 + 1 + 1 + (x : Int)))]) (fun x => []) (fun x => 8 - x) (fun x => x ≤ 8) 0 (by omega) ?_
    rintro j hj
    by_cases h3 : j < 8
    · have h3' : (j : Int) < 8 := by omega
      have e6 := i64w ((j : Int) + 1) (by omega) (by omega)
      have e7 := i64w (1 + 11 * (i : Int) + 1 + 1 + 1 + j + 1) (by omega) (by omega)
      have f2 := mkRow_at (1 + 11 * i) j h3
      simp -implicitDefEqProofs [h3', h3, h2, hn, f0, f1, f2, hr1]
      refine ⟨by omega, ?_⟩
      refine (markTextI _ (1 + 11 * i + 3 + j) (by omega) (by omega)).call ?_
      simp -implicitDefEqProofs [h3', h3, h2, hn, f0, f1, f2, hr1]
      have e10 : 1 + 11 * (i : Int) + 1 + 1 + 1 + j + 1 = 1 + 11 * (i : Int) + 1 + 1 + 1 + (j + 1) := by omega
      refine nx (j + 1) [] (by omega) (h4 := ?_)
      simp [e6, e7]
      rw [e10]
    · have : j = 8 := by omega
      subst this
      have e8 := i64w ((i : Int) + 1) (by omega) (by omega)
      have e10 : 1 + 11 * (i : Int) + 1 + 1 + 1 + 8 = 1 + 11 * ((i : Int) + 1) := by omega
      simp -implicitDefEqProofs
      refine nx (i + 1) [] (by omega) (h4 := ?_)
      simp [e8]
      rw [e10]
  · have : i = n := by omega
    subst this
    simp -implicitDefEqProofs [hn]
theorem heldBookC (n : Nat) (hl : n ≤ 2000000) : CV prog 49 [bk (mkL n), .int .i64 1] (.int .i64 (1 + 11 * (n : Int))) := by
  have h0 : ¬ (1 + 11 * (n : Int)) < 0 := by omega
  refine cvx func49 [] ntmps49 rfl rfl rfl ?_ (hca := by simp [bk])
  simp -implicitDefEqProofs [bk]
  refine (heldSetsC n hl).call ?_
  simp -implicitDefEqProofs [h0]
attribute [simp] clL_strs
@[simp] theorem renL_strs (ρ : Nat → Option Plc) (l : List (List UInt8)) : renL ρ (l.map AV.str) = l.map AV.str := by
  induction l with
  | nil => rfl
  | cons a r ih => simp [ih]
def BsG (b : BS) : Prop := i64G b.kind ∧ b.bl.length = 8 ∧ b.name.length ≤ maxLen ∧ b.frm.length ≤ maxLen ∧ ∀ t ∈ b.bl, t.length ≤ maxLen
def szSs : List (List UInt8) → Int → Int
  | [], l => l
  | t :: r, l => if l - t.length < 0 then -1 else szSs r (l - t.length)
theorem szSs_le : ∀ (ts : List (List UInt8)) (l : Int), 0 ≤ l → szSs ts l ≤ l ∧ -1 ≤ szSs ts l ∧ (0 ≤ szSs ts l → ∀ t ∈ ts, (t.length : Int) ≤ l)
  | [], l, h => by simp [szSs]; omega
  | t :: r, l, h => by
    unfold szSs
    split
    · refine ⟨by omega, by omega, fun h' => by omega⟩
    · obtain ⟨h1, h2, h3⟩ := szSs_le r (l - t.length) (by omega)
      refine ⟨by omega, h2, fun h' t' ht => ?_⟩
      rcases List.mem_cons.1 ht with rfl | ht
      · omega
      · have := h3 h' t' ht
        omega
theorem szA8C (ts : List (List UInt8)) (l : Int) (h8 : ts.length = 8) (hm : ∀ t ∈ ts, t.length ≤ maxLen) (hl : 0 ≤ l ∧ l ≤ 1048576) : CV prog 196 [.agg (ts.map .str), .int .i64 l] (.int .i64 (szSs ts l)) := by
  obtain ⟨R, hR⟩ : ∃ R, szSs ts l = R := ⟨_, rfl⟩
  rw [hR]
  have hml : maxLen = 9223372036854775807 := rfl
  refine cvx func196 [] ntmps196 rfl rfl rfl ?_ (hca := by simp)
  simp -implicitDefEqProofs [h8]
  refine ev_lp (X := Nat × Int) [1, 2, 5] [(2, 2)] (fun x => [(5, .int .i64 x.1), (1, .int .i64 x.2)]) (fun _ => []) (fun x => 8 - x.1) (fun x => x.1 ≤ 8 ∧ 0 ≤ x.2 ∧ x.2 ≤ 1048576 ∧ szSs (ts.drop x.1) x.2 = R) (0, l) (by simp [hR, hl]) ?_
  rintro ⟨i, k⟩ ⟨hi, hk0, hk, hd⟩
  simp only at hi hk0 hk hd
  cases hr : ts.drop i with
  | nil =>
    have := dropn hr
    rw [hr] at hd
    have hie : i = 8 := by omega
    simp [szSs] at hd
    simp -implicitDefEqProofs [hie, hd]
  | cons t r =>
    obtain ⟨h1, e0, e1, h3⟩ := dropc hr
    rw [hr, szSs] at hd
    have := hm t (List.mem_of_getElem? e1)
    have e2 := i64w ((i : Int) + 1) (by omega) (by omega)
    have e3 := i64w (k - (t.length : Int)) (by omega) (by omega)
    have h1' : (i : Int) < 8 := by omega
    simp -implicitDefEqProofs [h1', h1, e0, e1, e2, e3, h8, obOf]
    repeat' first
      | with_reducible intro _
      | with_reducible refine And.intro ?_ ?_
    all_goals first
      | exact nx (i + 1, k - t.length) [(2, 2)] (by simp only; grind) (h4 := by simp [obOf, e2, e3])
      | grind
theorem szSetC (b : BS) (l : Int) (hb : BsG b) (hl : 0 ≤ l ∧ l ≤ 1048576) : CV prog 162 [.agg b.row, .int .i64 l] (.int .i64 (szSs (b.name :: b.frm :: b.bl) l)) := by
  obtain ⟨R, hR⟩ : ∃ R, szSs (b.name :: b.frm :: b.bl) l = R := ⟨_, rfl⟩
  rw [hR]
  have hml : maxLen = 9223372036854775807 := rfl
  obtain ⟨_, b8, b1, b2, b3⟩ := hb
  have e1 := i64w (l - (b.name.length : Int)) (by omega) (by omega)
  have hrl : b.row.length = 11 := row_len _ b8
  have ht : List.take 8 (List.map AV.str b.bl) = List.map AV.str b.bl := List.take_of_length_le (by simp; omega)
  refine cvx func162 [] ntmps162 rfl rfl rfl ?_ (hca := by simp)
  unfold szSs at hR
  simp -implicitDefEqProofs [e1, hrl]
  by_cases h1 : l < b.name.length
  · rw [if_pos (by omega)] at hR
    simp -implicitDefEqProofs [h1, hR]
    intro h
    omega
  · rw [if_neg (by omega)] at hR
    have e2 := i64w (l - b.name.length - (b.frm.length : Int)) (by omega) (by omega)
    unfold szSs at hR
    simp -implicitDefEqProofs [h1, e2]
    by_cases h2 : l - b.name.length < b.frm.length
    · rw [if_pos (by omega)] at hR
      simp -implicitDefEqProofs [h2, hR]
      intros
      omega
    · rw [if_neg (by omega)] at hR
      have hR' := szSs_le b.bl (l - b.name.length - b.frm.length) (by omega)
      rw [hR] at hR'
      simp -implicitDefEqProofs [h2, ht]
      refine ⟨fun h => by omega, fun _ => ⟨fun h => by omega, fun _ => ?_⟩⟩
      refine (szA8C b.bl (l - b.name.length - b.frm.length) b8 b3 ⟨by omega, by omega⟩).call ?_
      simp -implicitDefEqProofs [hR]
      intros
      omega
def szBsL : List BS → Int → Int
  | [], l => l
  | b :: r, l => if szSs (b.name :: b.frm :: b.bl) l < 0 then -1 else szBsL r (szSs (b.name :: b.frm :: b.bl) l)
def BkS (bs : List BS) : Prop := bs.length ≤ 1048576 ∧ ∀ b ∈ bs, b.bl.length = 8 ∧ b.name.length ≤ 1048576 ∧ b.frm.length ≤ 1048576
theorem szBsL_le : ∀ (bs : List BS) (l : Int), 0 ≤ l ∧ l ≤ 1048576 → szBsL bs l ≤ l ∧ -1 ≤ szBsL bs l ∧ (0 ≤ szBsL bs l → ∀ b ∈ bs, b.name.length ≤ 1048576 ∧ b.frm.length ≤ 1048576)
  | [], l, h => by simp [szBsL]; omega
  | b :: r, l, h => by
    unfold szBsL
    obtain ⟨g1, g2, g3⟩ := szSs_le (b.name :: b.frm :: b.bl) l h.1
    split
    · exact ⟨by omega, by omega, fun h' => by omega⟩
    · obtain ⟨h1, h2, h3⟩ := szBsL_le r (szSs (b.name :: b.frm :: b.bl) l) (by omega)
      refine ⟨by omega, h2, fun h' t' ht => ?_⟩
      rcases List.mem_cons.1 ht with rfl | ht
      · have h4 := g3 (by omega) t'.name (by simp)
        have h5 := g3 (by omega) t'.frm (by simp)
        omega
      · exact h3 h' t' ht
theorem szSetsC' (bs : List BS) (l : Int) (hb : ∀ b ∈ bs, BsG b) (hbl : bs.length ≤ maxLen) (hl : 0 ≤ l ∧ l ≤ 1048576) : CV prog 98 [.lst 11 (bs.map BS.row), .int .i64 l] (.int .i64 (if l - bs.length < 0 then -1 else szBsL bs (l - bs.length))) := by
  have hml : maxLen = 9223372036854775807 := rfl
  have e1 := i64w (l - (bs.length : Int)) (by omega) (by omega)
  refine cvx func98 [] ntmps98 rfl rfl rfl ?_
  by_cases h0 : l - bs.length < 0
  · rw [if_pos h0]
    simp -implicitDefEqProofs [e1]
    intro h
    omega
  rw [if_neg h0]
  obtain ⟨R, hR⟩ : ∃ R, szBsL bs (l - bs.length) = R := ⟨_, rfl⟩
  rw [hR]
  have h0' : ¬ (l : Int) < bs.length := by omega
  simp -implicitDefEqProofs [e1, h0']
  refine ⟨fun h => by omega, fun _ => ?_⟩
  refine ev_lp (X := Nat × Int) [0, 1, 5] [] (fun x => [(5, .int .i64 x.1), (1, .int .i64 x.2)]) (fun _ => []) (fun x => bs.length - x.1) (fun x => x.1 ≤ bs.length ∧ 0 ≤ x.2 ∧ x.2 ≤ 1048576 ∧ szBsL (bs.drop x.1) x.2 = R) (0, l - bs.length) (by simp [hR]; omega) ?_
  rintro ⟨i, k⟩ ⟨hi, hk0, hk, hd⟩
  simp only at hi hk0 hk hd
  cases hr : bs.drop i with
  | nil =>
    have := dropn hr
    rw [hr] at hd
    have hie : i = bs.length := by omega
    simp [szBsL] at hd
    simp -implicitDefEqProofs [hie, hd]
  | cons b r =>
    obtain ⟨h1, f0, f1, h3⟩ := dropc hr
    rw [hr, szBsL] at hd
    have hb1 := hb b (List.mem_of_getElem? f1)
    have hz := szSs_le (b.name :: b.frm :: b.bl) k hk0
    have e2 := i64w ((i : Int) + 1) (by omega) (by omega)
    have hrl : b.row.length = 11 := row_len _ hb1.2.1
    have ht : List.take 11 b.row = b.row := List.take_of_length_le (by omega)
    simp -implicitDefEqProofs [h1, f0, f1, e2, hrl, ht]
    refine (szSetC b k hb1 ⟨hk0, hk⟩).call ?_
    simp -implicitDefEqProofs
    repeat' first
      | with_reducible intro _
      | with_reducible refine And.intro ?_ ?_
    all_goals first
      | exact nx (i + 1, szSs (b.name :: b.frm :: b.bl) k) [] (by simp only; grind) (h4 := by simp [e2])
      | grind
theorem szBookC (bs : List BS) (hb : ∀ b ∈ bs, BsG b) (hbl : bs.length ≤ maxLen) : ∃ z : Int, z ≤ 1048576 ∧ (0 ≤ z → BkS bs) ∧ CV prog 43 [bk bs, .int .i64 1048576] (.int .i64 z) := by
  have hs := szSetsC' bs 1048576 hb hbl ⟨by omega, by omega⟩
  obtain ⟨z, hz⟩ : ∃ z, (if 1048576 - (bs.length : Int) < 0 then -1 else szBsL bs (1048576 - (bs.length : Int))) = z := ⟨_, rfl⟩
  rw [hz] at hs
  have hzz : z ≤ 1048576 ∧ -1 ≤ z ∧ (0 ≤ z → BkS bs) := by
    split at hz
    · exact ⟨by omega, by omega, fun h => by omega⟩
    · obtain ⟨h1, h2, h3⟩ := szBsL_le bs (1048576 - (bs.length : Int)) ⟨by omega, by omega⟩
      refine ⟨by omega, by omega, fun h => ⟨by omega, fun b hbm => ⟨(hb b hbm).2.1, h3 (by omega) b hbm⟩⟩⟩
  refine ⟨z, hzz.1, hzz.2.2, ?_⟩
  refine cvx func43 [] ntmps43 rfl rfl rfl ?_ (hca := by simp [bk])
  simp -implicitDefEqProofs [bk]
  refine hs.call ?_
  simp -implicitDefEqProofs
  intros
  omega
def opS (o : BO) : Prop := o.a.length ≤ 1048576 ∧ o.b.length ≤ 1048576
theorem szOpC (o : BO) (l : Int) (hl : 0 ≤ l ∧ l ≤ 1048576) (h1 : o.a.length ≤ maxLen) (h2 : o.b.length ≤ maxLen) (h3 : o.text.length ≤ maxLen) : ∃ z : Int, (0 ≤ z → opS o) ∧ CV prog 44 [.agg (BO.row o), .int .i64 l] (.int .i64 z) := by
  refine ⟨szSs [o.a, o.b, o.text] l, ?_, ?_⟩
  · intro h
    have := (szSs_le [o.a, o.b, o.text] l hl.1).2.2 h
    have g1 := this o.a (by simp)
    have g2 := this o.b (by simp)
    exact ⟨by omega, by omega⟩
  · have hml : maxLen = 9223372036854775807 := rfl
    refine cvx func44 [] ntmps44 rfl rfl rfl ?_ (hca := by simp [BO.row])
    have e1 := i64w (l - (o.a.length : Int)) (by omega) (by omega)
    simp only [szSs]
    split
    · simp -implicitDefEqProofs [BO.row, e1]
      intros
      omega
    · have e2 := i64w (l - o.a.length - (o.b.length : Int)) (by omega) (by omega)
      split
      · simp -implicitDefEqProofs [BO.row, e1, e2]
        intros
        omega
      · have e3 := i64w (l - o.a.length - o.b.length - (o.text.length : Int)) (by omega) (by omega)
        split
        · simp -implicitDefEqProofs [BO.row, e1, e2, e3]
          intros
          omega
        · simp -implicitDefEqProofs [BO.row, e1, e2, e3]
          intros
          omega
theorem setS (cs : List (List UInt8)) (i : Nat) (x : List UInt8) (h : i < cs.length) : List.take i (cs.map AV.str) ++ AV.str x :: List.drop (i + 1) (cs.map AV.str) = (cs.set i x).map AV.str := by
  rw [List.set_eq_take_append_cons_drop, if_pos h]
  simp
@[simp] theorem renL_setS (ρ : Nat → Option Plc) (l : List (List UInt8)) (i : Nat) (b : List UInt8) : renL ρ ((l.map AV.str).set i (AV.str b)) = (l.map AV.str).set i (AV.str b) := by
  rw [← List.map_set]
  exact renL_strs ρ _
theorem toSA8C (ts : List (List UInt8)) (h8 : ts.length = 8) : CV prog 197 [.agg (ts.map .str)] (.agg (ts.map .str)) := by
  refine cvx func197 [] ntmps197 rfl rfl rfl ?_
  simp -implicitDefEqProofs [h8]
  refine ev_lp (X := Nat × List (List UInt8)) [1, 2, 3, 4] [(1, 1), (2, 2), (3, 3)] (fun x => [(4, .int .i64 x.1)]) (fun x => [(3, ⟨8, [x.2.map .str]⟩)]) (fun x => 8 - x.1)
    (fun x => x.1 ≤ 8 ∧ x.2.length = 8 ∧ ∀ j, j < x.1 → x.2[j]? = ts[j]?) (0, zbl) ⟨by omega, rfl, by omega⟩ ?_ (he := by simp [obOf, zbl])
  rintro ⟨i, cs⟩ ⟨hi, hc, hm⟩
  simp only at hi hc hm
  by_cases h2 : i < 8
  · obtain ⟨b, f1⟩ : ∃ b, ts[i]? = some b := ⟨_, List.getElem?_eq_getElem (by omega)⟩
    have h2' : (i : Int) < 8 := by omega
    have hil : i < ts.length := by omega
    have f0 : ts[i] = b := (List.getElem?_eq_some_iff.1 f1).2
    have e1 := i64w ((i : Int) + 1) (by omega) (by omega)
    have e2 := setS cs i b (by omega)
    simp -implicitDefEqProofs [h2', h2, hil, f0, f1, obOf, h8, hc]
    refine ⟨by omega, ?_⟩
    refine nx (i + 1, cs.set i b) [(1, 1), (2, 2), (3, 3)] ⟨by simp only; omega, by simp [hc], ?_⟩ (by simp only; omega) (h4 := by simp [obOf, e1, e2])
    intro j hj
    simp only at hj ⊢
    by_cases hji : j = i
    · subst hji
      simp [hc, h2, f0, hil]
    · rw [List.getElem?_set_ne (by omega)]
      exact hm j (by omega)
  · have : i = 8 := by omega
    subst this
    have hcs : cs = ts := by
      refine List.ext_getElem? fun q => ?_
      by_cases hq : q < 8
      · exact hm q hq
      · rw [List.getElem?_eq_none (by omega), List.getElem?_eq_none (by omega)]
    subst hcs
    have ht : List.take 8 (List.map AV.str cs) = List.map AV.str cs := List.take_of_length_le (by simp; omega)
    simp -implicitDefEqProofs [obOf, h8, ht]
theorem toSetC (b : BS) (h8 : b.bl.length = 8) : CV prog 163 [.agg b.row] (.agg b.row) := by
  have hrl : b.row.length = 11 := row_len _ h8
  have ht : List.take 8 (List.map AV.str b.bl) = List.map AV.str b.bl := List.take_of_length_le (by simp; omega)
  refine cvx func163 [] ntmps163 rfl rfl rfl ?_ (hca := by simp) (hcv := by simp)
  simp -implicitDefEqProofs [hrl, ht]
  refine (toSA8C b.bl h8).call ?_
  simp -implicitDefEqProofs [hrl, ht, h8]
  rfl
theorem oneA_bs (b : BS) : ∀ x ∈ b.row, oneA x = true := by simp [BS.row]
theorem toSetsC (bs : List BS) (hl : bs.length ≤ 2000000) (hB : ∀ b ∈ bs, b.bl.length = 8) : ACall prog 99 [.lst 11 (bs.map BS.row)] [] (fun r L' => r = .sl 900 0 bs.length ∧ L' = [(900, bkOb bs)]) := by
  obtain ⟨n, hn⟩ : ∃ n, bs.length = n := ⟨_, rfl⟩
  rw [hn] at hl ⊢
  refine acx func99 [] ntmps99 rfl rfl rfl ?_
  simp -implicitDefEqProofs [hn]
  refine ⟨by omega, ?_⟩
  refine ev_lp (X := Nat × List BS) [0, 3, 4] [(7, 900)] (fun x => [(4, .int .i64 x.1)]) (fun x => [(900, bkOb x.2)]) (fun x => n - x.1)
    (fun x => x.1 ≤ n ∧ x.2.length = n ∧ (∀ b ∈ x.2, b.bl.length = 8) ∧ ∀ j, j < x.1 → x.2[j]? = bs[j]?) (0, List.replicate n ⟨[], 0, [], zbl⟩) ⟨by omega, by simp, by simp [zbl], by omega⟩ ?_ (he := by simp [obOf, bkOb, BS.row, zbl])
  rintro ⟨i, cs⟩ ⟨hi, hc, hb, hm⟩
  simp only at hi hc hb hm
  by_cases h2 : i < n
  · obtain ⟨b, f1⟩ : ∃ b, bs[i]? = some b := ⟨_, List.getElem?_eq_getElem (by omega)⟩
    have h2' : (i : Int) < n := by omega
    have hil : i < cs.length := by omega
    have hil' : i < bs.length := by omega
    have f0 : bs[i] = b := (List.getElem?_eq_some_iff.1 f1).2
    have b8 := hB b (List.mem_of_getElem? f1)
    have hrl : b.row.length = 11 := row_len _ b8
    have ht : List.take 11 b.row = b.row := List.take_of_length_le (by omega)
    have hc8 : cs[i].row.length = 11 := row_len _ (hb _ (List.getElem_mem _))
    have e1 := i64w ((i : Int) + 1) (by omega) (by omega)
    simp -implicitDefEqProofs [h2', h2, hil, hil', hn, f0, f1, hrl, ht]
    refine (toSetC b b8).call ?_
    simp -implicitDefEqProofs [h2', h2, hil, hil', hn, f0, f1, hrl, ht, hc8]
    refine ⟨oneA_bs b, ?_⟩
    refine nx (i + 1, cs.set i b) [(900, 900)] ⟨by simp only; omega, by simp [hc], ?_, ?_⟩ (by simp only; omega) (h4 := ?_)
    · intro c hcm
      rcases List.mem_or_eq_of_mem_set hcm with h | rfl
      · exact hb c h
      · exact b8
    · intro j hj
      simp only at hj ⊢
      by_cases hji : j = i
      · subst hji
        simp [hil, f0, hil']
      · rw [List.getElem?_set_ne (by omega)]
        exact hm j (by omega)
    · have hd : List.drop 11 cs[i].row = [] := List.drop_eq_nil_of_le (by omega)
      simp [obOf, e1, hd, bkOb, List.map_set]
  · have : i = n := by omega
    subst this
    have hcs : cs = bs := by
      refine List.ext_getElem? fun q => ?_
      by_cases hq : q < i
      · exact hm q hq
      · rw [List.getElem?_eq_none (by omega), List.getElem?_eq_none (by omega)]
    subst hcs
    simp -implicitDefEqProofs [hn]
theorem eqSA8C (s t : List (List UInt8)) (h8 : s.length = 8) (g8 : t.length = 8) : CV prog 198 [.agg (s.map .str), .agg (t.map .str)] (.bool (decide (s = t))) := by
  obtain ⟨R, hR⟩ : ∃ R, decide (s = t) = R := ⟨_, rfl⟩
  rw [hR]
  refine cvx func198 [(4, [⟨0, [], [], [], []⟩, ⟨1, [], [], [], []⟩, ⟨2, [2], [], [], []⟩, ⟨3, [], [2], [], []⟩, ⟨4, [], [2], [], []⟩, ⟨5, [3], [2], [], []⟩, ⟨6, [], [], [], []⟩])] ntmps198 rfl rfl rfl ?_
  simp -implicitDefEqProofs [h8, g8]
  refine ev_lp (X := Nat) [2, 3, 5] [(2, 2), (3, 3)] (fun x => [(5, .int .i64 x)]) (fun x => []) (fun x => 8 - x) (fun x => x ≤ 8 ∧ decide (s.drop x = t.drop x) = R) 0 (by simp [hR]) ?_
  rintro i ⟨hi, hd⟩
  by_cases h2 : i < 8
  · obtain ⟨b, f1⟩ : ∃ b, s[i]? = some b := ⟨_, List.getElem?_eq_getElem (by omega)⟩
    obtain ⟨c, g1⟩ : ∃ c, t[i]? = some c := ⟨_, List.getElem?_eq_getElem (by omega)⟩
    rw [dropAt f1, dropAt g1] at hd
    have h2' : (i : Int) < 8 := by omega
    have hil : i < s.length := by omega
    have hjl : i < t.length := by omega
    have f0 : s[i] = b := (List.getElem?_eq_some_iff.1 f1).2
    have g0 : t[i] = c := (List.getElem?_eq_some_iff.1 g1).2
    have e1 := i64w ((i : Int) + 1) (by omega) (by omega)
    simp -implicitDefEqProofs [h2', h2, hil, hjl, f0, f1, g0, g1, obOf, h8, g8]
    by_cases hbc : b = c
    · subst hbc
      simp -implicitDefEqProofs
      exact nx (i + 1) [(2, 2), (3, 3)] (by simp only [List.cons.injEq, true_and] at hd; exact ⟨by omega, hd⟩) (h4 := by simp [obOf, e1])
    · simp -implicitDefEqProofs [hbc]
      grind
  · have : i = 8 := by omega
    subst this
    rw [List.drop_eq_nil_of_le (by omega), List.drop_eq_nil_of_le (by omega)] at hd
    simp at hd
    simp -implicitDefEqProofs [hd]
theorem eqSetC (a b : BS) (h8 : a.bl.length = 8) (g8 : b.bl.length = 8) : CV prog 164 [.agg a.row, .agg b.row] (.bool (decide (a = b))) := by
  obtain ⟨R, hR⟩ : ∃ R, decide (a = b) = R := ⟨_, rfl⟩
  rw [hR]
  have hrl : a.row.length = 11 := row_len _ h8
  have gl : b.row.length = 11 := row_len _ g8
  have ht : List.take 8 (List.map AV.str a.bl) = List.map AV.str a.bl := List.take_of_length_le (by simp; omega)
  have gt : List.take 8 (List.map AV.str b.bl) = List.map AV.str b.bl := List.take_of_length_le (by simp; omega)
  obtain ⟨an, ak, af, ab⟩ := a
  obtain ⟨bn, bK, bf, bb⟩ := b
  dsimp only at h8 g8 ht gt
  refine cvx func164 [] ntmps164 rfl rfl rfl ?_ (hca := by simp)
  simp -implicitDefEqProofs [hrl, gl, ht, gt, h8, g8]
  simp only [BS.mk.injEq] at hR
  repeat' first
    | (refine (eqSA8C ab bb h8 g8).call ?_; simp -implicitDefEqProofs)
    | with_reducible intro _
    | with_reducible refine And.intro ?_ ?_
  all_goals grind
theorem eqSetsC (cs bs : List BS) (hl : cs.length ≤ 2000000) (hA : ∀ b ∈ cs, b.bl.length = 8) (hB : ∀ b ∈ bs, b.bl.length = 8) : CV prog 100 [.lst 11 (cs.map BS.row), .lst 11 (bs.map BS.row)] (.bool (decide (cs = bs))) := by
  obtain ⟨R, hR⟩ : ∃ R, decide (cs = bs) = R := ⟨_, rfl⟩
  rw [hR]
  refine cvx func100 [] ntmps100 rfl rfl rfl ?_
  by_cases hlen : cs.length = bs.length
  · simp -implicitDefEqProofs [hlen]
    refine ev_lp (X := Nat) [0, 1, 5] [] (fun x => [(5, .int .i64 x)]) (fun x => []) (fun x => bs.length - x) (fun x => x ≤ bs.length ∧ decide (cs.drop x = bs.drop x) = R) 0 (by simp [hR]) ?_
    rintro i ⟨hi, hd⟩
    by_cases h2 : i < bs.length
    · obtain ⟨b, f1⟩ : ∃ b, cs[i]? = some b := ⟨_, List.getElem?_eq_getElem (by omega)⟩
      obtain ⟨c, g1⟩ : ∃ c, bs[i]? = some c := ⟨_, List.getElem?_eq_getElem (by omega)⟩
      rw [dropAt f1, dropAt g1] at hd
      have h2' : (i : Int) < bs.length := by omega
      have hil : i < cs.length := by omega
      have f0 : cs[i] = b := (List.getElem?_eq_some_iff.1 f1).2
      have g0 : bs[i] = c := (List.getElem?_eq_some_iff.1 g1).2
      have e1 := i64w ((i : Int) + 1) (by omega) (by omega)
      have b8 := hA b (List.mem_of_getElem? f1)
      have c8 := hB c (List.mem_of_getElem? g1)
      have hrl : b.row.length = 11 := row_len _ b8
      have gl : c.row.length = 11 := row_len _ c8
      have ht : List.take 11 b.row = b.row := List.take_of_length_le (by omega)
      have gt : List.take 11 c.row = c.row := List.take_of_length_le (by omega)
      simp -implicitDefEqProofs [h2', h2, hil, hlen, f0, f1, g0, g1, hrl, gl, ht, gt]
      refine (eqSetC b c b8 c8).call ?_
      by_cases hbc : b = c
      · subst hbc
        simp -implicitDefEqProofs
        exact nx (i + 1) [] (by simp only [List.cons.injEq, true_and] at hd; exact ⟨by omega, hd⟩) (h4 := by simp [e1])
      · simp -implicitDefEqProofs [hbc]
        grind
    · have : i = bs.length := by omega
      subst this
      rw [List.drop_eq_nil_of_le (by omega), List.drop_eq_nil_of_le (by omega)] at hd
      simp at hd
      simp -implicitDefEqProofs [hd, hlen]
  · have h' : ¬ (cs.length : Int) = bs.length := by omega
    have : R = false := by rw [← hR]; simp; rintro rfl; exact hlen rfl
    simp -implicitDefEqProofs [hlen, h', this]
theorem eqBookC (cs bs : List BS) (hl : cs.length ≤ 2000000) (hA : ∀ b ∈ cs, b.bl.length = 8) (hB : ∀ b ∈ bs, b.bl.length = 8) : CV prog 47 [bk cs, bk bs] (.bool (decide (cs = bs))) := by
  refine cvx func47 [] ntmps47 rfl rfl rfl ?_ (hca := by simp [bk])
  simp -implicitDefEqProofs [bk]
  refine (eqSetsC cs bs hl hA hB).call ?_
  by_cases h : cs = bs
  · simp -implicitDefEqProofs [h]
  · simp -implicitDefEqProofs [h]
theorem toBookO (bs : List BS) (hl : bs.length ≤ 2000000) (hB : ∀ b ∈ bs, b.bl.length = 8) : ACall prog 45 [bk bs] [] (fun r L' => r = .agg [.sl 900 0 bs.length] ∧ L' = [(900, bkOb bs)]) := by
  refine acx func45 [] ntmps45 rfl rfl rfl ?_
  simp -implicitDefEqProofs [bk]
  refine callA_wh [] (by kernel_rfl) (toSetsC bs hl hB) (by simp) (by simp) (by simp) (by simp) (by simp) ?_
  rintro r L' ⟨rfl, rfl⟩
  refine ⟨[(900, 900)], ⟨by simp, by simp, by simp, by simp, by simp⟩, ?_⟩
  simp -implicitDefEqProofs
theorem toBookC (bs : List BS) (hl : bs.length ≤ 2000000) (hB : ∀ b ∈ bs, b.bl.length = 8) : CV prog 45 [bk bs] (bk bs) := by
  refine CV.of_frz (toBookO bs hl hB) ?_ (hca := by simp [bk]) (hcv := by simp [bk])
  rintro r L' ⟨rfl, rfl⟩
  refine ⟨by simp, by simp, by simp, ?_⟩
  simp [frzAll, bk, bkOb]
  exact impA_refl _
theorem toOpC (o : BO) : CV prog 46 [.agg (BO.row o)] (.agg (BO.row o)) := by
  refine cvx func46 [] ntmps46 rfl rfl rfl ?_ (hca := by simp [BO.row]) (hcv := by simp [BO.row])
  simp -implicitDefEqProofs [BO.row]
theorem phs_tup1 {id sz : Nat} {z : AV} : phs id sz (.tup [.agg [.nils], z]) (.tup [.agg [.sl id 0 0], z]) := phs_tup2 phs_agg1 (phs_refl _ _ _)
def Bk8 (bs : List BS) : Prop := ∀ b ∈ bs, b.bl.length = 8
theorem newB_b8 {bs : List BS} {s : BS} (h : Bk8 bs) (hs : s.bl.length = 8) : Bk8 (newB bs s).1 := fun b hb => by
  rcases newB_mem hb with h1 | rfl
  · exact h b h1
  · exact hs
theorem doB_b8 {bs : List BS} {o : BO} (h : Bk8 bs) : Bk8 (doB bs o).1 := by
  have hg : ∀ (i : Nat) t, bs[i]? = some t → t.bl.length = 8 := fun i t ht => h _ (List.mem_of_getElem? ht)
  unfold doB
  split
  · exact newB_b8 h rfl
  · split
    · exact h
    · split
      · exact h
      · split
        · rename_i t ht
          have := hg _ _ ht
          split
          · unfold killB
            split
            · split
              · exact h
              · intro b hb
                simp only [List.mem_append] at hb
                rcases hb with hb | hb
                · exact h _ (List.mem_of_mem_take hb)
                · exact h _ (List.mem_of_mem_drop hb)
            · exact h
          · split
            · unfold putB
              split
              · rename_i t2 ht2
                have := hg _ _ ht2
                split
                · exact h
                · split
                  · exact h
                  · intro b hb
                    rcases mem_set hb with hb | rfl
                    · exact h _ hb
                    · simpa using this
              · exact h
            · split
              · unfold backB
                split
                · rename_i t2 ht2
                  have h2 := hg _ _ ht2
                  split
                  · exact h
                  · split
                    · rename_i u hu
                      have h3 := hg _ _ hu
                      split
                      · exact h
                      · intro b hb
                        rcases mem_set hb with hb | rfl
                        · exact h _ hb
                        · exact h3
                    · exact h
                · exact h
              · split
                · split
                  · exact h
                  · exact newB_b8 h this
                · split
                  · exact h
                  · exact newB_b8 h this
        · exact h
theorem resB_8 (bs : List BS) (o : BO) (h : ∀ b ∈ bs, b.bl.length = 8) : ∀ b ∈ (resB bs o).1, b.bl.length = 8 := by
  unfold resB
  split
  · exact doB_b8 h
  · simp
theorem noL_bs (b : BS) : noL b.row = true := by simp [BS.row, noL_strs]
theorem idoO (bs : List BS) (o : BO) (h : BkS bs) (ho : opS o) : ACall prog 16 [bk bs, .agg (BO.row o)] [] (fun r L' => r = .tup [.agg [.sl 903 0 (resB bs o).1.length], .int .i64 (resB bs o).2] ∧ L' = [(903, bkOb (resB bs o).1)]) := by
  have hc := ok_eq bs ▸ ibookDoC bs o (by have := h.1; omega) (fun b hb => (h.2 b hb).1) (fun b hb => by have := (h.2 b hb).2.1; omega) ⟨by have := ho.1; omega, by have := ho.2; omega⟩
  refine ACall.ph 903 11 hc (by simp) ?_
  intro r L' hr
  unfold bkN at hr
  unfold resB
  split at hr
  · rename_i hk
    obtain ⟨id, hid, rfl, rfl⟩ := hr
    simp only [List.mem_singleton] at hid
    subst hid
    exact .inl (by rw [if_pos hk]; exact ⟨rfl, rfl⟩)
  · rename_i hk
    obtain ⟨rfl, rfl⟩ := hr
    exact .inr ⟨by simp, by simp, _, phs_tup1, by rw [if_neg hk]; exact ⟨rfl, rfl⟩⟩
theorem idoC' (bs : List BS) (o : BO) (h : BkS bs) (ho : opS o) : CV prog 16 [bk bs, .agg (BO.row o)] (.tup [bk (resB bs o).1, .int .i64 (resB bs o).2]) := by
  refine CV.of_frz (idoO bs o h ho) ?_ (hca := by simp [bk, BO.row]) (hcv := by simp [bk])
  rintro r L' ⟨rfl, rfl⟩
  refine ⟨by simp, by simp, by simp, ?_⟩
  simp [frzAll, bk, bkOb]
  exact impA_refl _
theorem sdoC' (bs : List BS) (o : BO) (h : BkS bs) (ho : opS o) : CV prog 17 [bk bs, .agg (BO.row o)] (.tup [bk (resB bs o).1, .int .i64 (resB bs o).2]) :=
  cv_of (pureC (xs := [901, 902]) (sbookDoC bs o (by have := h.1; omega) (fun b hb => (h.2 b hb).1) (fun b hb => by have := (h.2 b hb).2.1; omega) ⟨by have := ho.1; omega, by have := ho.2; omega⟩)) (hca := by simp [bk, BO.row]) (hcv := by simp [bk])
theorem lawBookDo (bs : List BS) (o : BO) (hb : ∀ b ∈ bs, BsG b) (hbl : bs.length ≤ maxLen) (h1 : o.a.length ≤ maxLen) (h2 : o.b.length ≤ maxLen) (h3 : o.text.length ≤ maxLen) : CV prog 13 [bk bs, .agg (BO.row o)] (.bool true) := by
  obtain ⟨z, hz, hz1, hz2⟩ := szBookC bs hb hbl
  refine cvx func13 [(8, [⟨0, [2], [], [], []⟩, ⟨2, [3], [2], [], []⟩, ⟨1, [], [3], [8], []⟩, ⟨3, [], [], [8], []⟩, ⟨4, [], [], [8], []⟩, ⟨5, [], [], [], []⟩, ⟨6, [], [], [], []⟩, ⟨7, [], [], [], []⟩, ⟨8, [], [2, 3], [], []⟩, ⟨9, [], [], [], []⟩, ⟨10, [], [], [], []⟩]), (10, [⟨0, [8, 35], [], [], []⟩, ⟨1, [3, 35], [8, 35], [], []⟩, ⟨2, [], [8, 35], [7], []⟩, ⟨3, [], [], [7], []⟩, ⟨4, [], [], [], []⟩, ⟨5, [], [], [], []⟩, ⟨6, [], [], [], []⟩, ⟨7, [], [8, 35, 3], [], []⟩, ⟨8, [], [], [], []⟩, ⟨9, [], [], [], []⟩]), (13, [⟨0, [8, 35], [], [], []⟩, ⟨1, [2, 35], [8, 35], [], []⟩, ⟨2, [], [8, 35], [], []⟩, ⟨3, [], [], [], []⟩, ⟨4, [], [], [], []⟩]), (27, [⟨0, [2], [], [], []⟩, ⟨2, [3], [2], [], []⟩, ⟨1, [], [3], [8], []⟩, ⟨3, [], [], [8], []⟩, ⟨4, [], [], [8], []⟩, ⟨5, [], [], [], []⟩, ⟨6, [], [], [], []⟩, ⟨7, [], [], [], []⟩, ⟨8, [], [2, 3], [], []⟩, ⟨9, [], [], [], []⟩, ⟨10, [], [], [], []⟩])] ntmps13 rfl rfl rfl ?_ (hca := by simp [bk, BO.row])
  simp -implicitDefEqProofs [bk, BO.row]
  refine hz2.view (by simp [bk]) ?_
  by_cases h0 : z < 0
  · simp -implicitDefEqProofs [h0]
  obtain ⟨y, hy1, hy2⟩ := szOpC o z ⟨by omega, hz⟩ h1 h2 h3
  simp only [BO.row] at hy2
  simp -implicitDefEqProofs [h0]
  refine hy2.call ?_
  by_cases g0 : y < 0
  · simp -implicitDefEqProofs [g0]
  simp -implicitDefEqProofs [g0]
  have hS := hz1 (by omega)
  have hO := hy1 (by omega)
  have hB : ∀ b ∈ bs, b.bl.length = 8 := fun b h => (hS.2 b h).1
  have hl := hS.1
  have hR8 := resB_8 bs o hB
  have hRl := resB_len bs o
  have c1 := toBookC bs (by omega) hB
  have c2 := toOpC o
  have c3 := sdoC' bs o hS hO
  have c4 := idoC' bs o hS hO
  have c5 := toBookO bs (by omega) hB
  have c6 := idoO bs o hS hO
  have c7 := eqBookC (resB bs o).1 (resB bs o).1 (by omega) hR8 hR8
  have c8 := eqBookC bs bs (by omega) hB hB
  have c9 := markBookC bs (by omega) hB
  have c10 := markBookC (resB bs o).1 (by omega) hR8
  have c11 := heldBookC (resB bs o).1.length (by omega)
  have htk : ∀ k : Nat, List.take k (List.map BS.row (mkL k)) = List.map BS.row (mkL k) := fun k => List.take_of_length_le (by simp [mkL_len])
  simp only [bk, BO.row, decide_true] at c1 c2 c3 c4 c5 c6 c7 c8 c9 c10 c11
  generalize (resB bs o).1 = rs at *
  generalize (resB bs o).2 = rc at *
  refine c1.call ?_
  simp -implicitDefEqProofs
  refine c2.call ?_
  simp -implicitDefEqProofs
  refine c3.call ?_
  simp -implicitDefEqProofs
  refine callA_wh [] (by kernel_rfl) c5 (by simp) (by simp) trivial (by simp) (by simp) ?_
  rintro r L' ⟨rfl, rfl⟩
  refine ⟨[(900, 35)], ⟨by simp, by simp, by simp, by simp, by simp⟩, ?_⟩
  simp only [afterS]
  simp -implicitDefEqProofs
  refine c2.call ?_
  simp -implicitDefEqProofs
  refine callA_vw [] (by kernel_rfl) c6 (by simp [vwOk, mtA]) (by simp) trivial (by simp) (by simp) ?_
  rintro r L' ⟨rfl, rfl⟩
  refine ⟨by simp, by simp [noL_bs], [(903, 40)], ⟨by simp, by simp, by simp, by simp, by simp⟩, ?_⟩
  simp only [afterS]
  simp -implicitDefEqProofs
  refine c7.view (by simp [vwOk, mtA]) ?_
  simp -implicitDefEqProofs
  refine c1.call ?_
  simp -implicitDefEqProofs
  refine c8.view (by simp [vwOk, mtA]) ?_
  simp -implicitDefEqProofs
  refine callA_wh [(1000, .whole 35)] (by kernel_rfl) c9 (by simp) (by simp) ⟨⟨bkOb bs, by simp, rfl, rowsMt_cl rfl (clR_bk bs)⟩, trivial⟩ (by simp) (by simp) ?_
  rintro r L' ⟨rfl, rfl⟩
  refine ⟨[], ⟨by simp, by simp, by simp, by simp, by simp⟩, ?_⟩
  simp only [afterS]
  simp -implicitDefEqProofs
  refine ⟨fun _ => ?_, by omega⟩
  refine c7.view (by simp [vwOk, mtA]) ?_
  simp -implicitDefEqProofs
  refine callA_wh [(1000, .whole 40)] (by kernel_rfl) c10 (by simp) (by simp) ⟨⟨bkOb rs, by simp, rfl, rowsMt_cl rfl (clR_bk rs)⟩, trivial⟩ (by simp) (by simp) ?_
  rintro r L' ⟨rfl, rfl⟩
  refine ⟨[], ⟨by simp, by simp, by simp, by simp, by simp⟩, ?_⟩
  simp only [afterS]
  simp -implicitDefEqProofs
  refine c11.view (by simp [vwOk, mtA, mkL_len, htk]) ?_
  have hp0 : ¬ (1 + 11 * (rs.length : Int)) < 0 := by omega
  simp -implicitDefEqProofs [hp0]
  refine c1.call ?_
  simp -implicitDefEqProofs
  refine c2.call ?_
  simp -implicitDefEqProofs
  refine c4.call ?_
  simp -implicitDefEqProofs
  refine c7.call ?_
  simp -implicitDefEqProofs
  refine c11.view (by simp [vwOk, mtA, mkL_len, htk]) ?_
  simp -implicitDefEqProofs [hp0]
structure BK where
  sets : List BS
def BK.row (b : BK) : List AV := [.lst 11 (b.sets.map BS.row)]
def BkW (b : BK) : Prop := (∀ s ∈ b.sets, BsG s) ∧ b.sets.length ≤ maxLen
def BoW (o : BO) : Prop := o.a.length ≤ maxLen ∧ o.b.length ≤ maxLen ∧ o.text.length ≤ maxLen
theorem str_shp {n : Nat} {avs : List AV} (h : Shp prog (n + 1) 9 avs) : ∃ s : List UInt8, s.length ≤ maxLen ∧ avs = [.str s] := shp_string underlying9 h
theorem flat_strs : ∀ l : List (List UInt8), l.flatMap (fun t => [AV.str t]) = l.map AV.str
  | [] => rfl
  | a :: r => by simp [flat_strs r]
theorem bs_shp {n : Nat} {avs : List AV} (h : Shp prog (n + 3) 196 avs) : ∃ s : BS, BsG s ∧ avs = s.row := by
  obtain ⟨a1, b1, rfl, h1, a2, b2, rfl, h2, a3, b3, rfl, h3, a4, b4, rfl, h4, rfl⟩ := shp_struct underlying196 h
  obtain ⟨s1, m1, rfl⟩ := shp_string underlying9 h1
  obtain ⟨z2, g2, rfl⟩ := shp_i64 h2
  obtain ⟨s3, m3, rfl⟩ := shp_string underlying9 h3
  obtain ⟨l, hl, rfl, hg⟩ := arr_ex (fun t : List UInt8 => [.str t]) (fun t => t.length ≤ maxLen) _ (fun r hr => str_shp hr) 8 a4 (shp_array underlying33 h4)
  refine ⟨⟨s1, z2, s3, l⟩, ⟨g2, hl, m1, m3, hg⟩, ?_⟩
  simp only [BS.row, List.append_nil, List.cons_append, List.nil_append, flat_strs]
theorem bk_shp {avs : List AV} (h : Shp prog 8 75 avs) : ∃ b : BK, BkW b ∧ avs = b.row := by
  obtain ⟨a2, b2, rfl, h2, rfl⟩ := shp_struct underlying75 h
  obtain ⟨e2, m2, rfl, k2⟩ := shp_slice underlying73 h2
  obtain ⟨l2, rfl, g2⟩ := rows_ex BS.row BsG e2 fun r hr => bs_shp (k2 r hr)
  have c1 : prog.cellsOf 196 = 11 := by kernel_rfl
  refine ⟨⟨l2⟩, ⟨g2, by simpa using m2⟩, ?_⟩
  rw [c1]
  rfl
theorem bo_shp {avs : List AV} (h : Shp prog 8 76 avs) : ∃ o : BO, BoW o ∧ avs = BO.row o := by
  obtain ⟨a1, b1, rfl, h1, a2, b2, rfl, h2, a3, b3, rfl, h3, a4, b4, rfl, h4, a5, b5, rfl, h5, rfl⟩ := shp_struct underlying76 h
  obtain ⟨z1, g1, rfl⟩ := shp_i64 h1
  obtain ⟨s2, m2, rfl⟩ := shp_string underlying9 h2
  obtain ⟨s3, m3, rfl⟩ := shp_string underlying9 h3
  obtain ⟨z4, g4, rfl⟩ := shp_i64 h4
  obtain ⟨s5, m5, rfl⟩ := shp_string underlying9 h5
  exact ⟨⟨z1, s2, s3, z4, s5⟩, ⟨m2, m3, m5⟩, rfl⟩
theorem lawBookDo' (b : BK) (o : BO) (hb : BkW b) (ho : BoW o) : CV prog 13 [.agg b.row, .agg o.row] (.bool true) :=
  lawBookDo b.sets o hb.1 hb.2 ho.1 ho.2.1 ho.2.2
end Go.Av.F
end
section
namespace Go.Av
open Go.RowKit Go.ChangeShapes Go.WideShapes Go.ChangeAt
set_option linter.unusedSimpArgs false
set_option linter.unusedVariables false
variable {H : Type} {enc : TypeId × Value → H} {P : Program} {w : World} {spare : Nat → Bool} {held : Bool}
theorem open_st {r : Reach} {base n : Nat} {t : TypeId} {fs : Array Field} {v : Value} {d : DataW H} {ps : List MemPlace} (ht : P.underlying t = some (.struct fs)) (hp : plainT P n t = true) (hv : Value.okWide P w r base t v)
    (hd : DataW.Trod enc P w 0 spare held t v d ps) : ∃ avs, AVRel w (Old w) noG (.agg avs) v ∧ Shp P n t avs := by
  obtain ⟨cs, rfl, _⟩ := okWide_struct ht hv
  obtain ⟨fuel, hf⟩ := hd
  obtain ⟨avs, hr, hs⟩ := opened n t _ fuel _ hp hf
  refine ⟨avs, .agg _ _ _ ?_ fun j hj => ?_, hs⟩
  · have := hr.1
    simpa [Value.cells] using this.symm
  · have h1 := hr.1
    simp only [Value.cells, Array.length_toList] at h1
    have := hr.2 j (by simp [Value.cells]; omega)
    simpa [Value.cells, Array.getD_eq_getD_getElem?, List.getD_eq_getElem?_getD] using this
end Go.Av
end
