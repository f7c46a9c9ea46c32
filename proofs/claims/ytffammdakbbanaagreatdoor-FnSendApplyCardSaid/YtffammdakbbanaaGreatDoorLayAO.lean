/- Lemmas for the proof, no statement of the seat; no conditions. -/
import Derived.Test.YtffammdakbbanaaGreatDoorLayAN
import Derived.Lib.LaidTab
import Derived.FnData
import Derived.Test.YtffammdakbbanaaGreatDoorRows
import Derived.Test.YtffammdakbbanaaGreatDoorCards
import Derived.ProofKit
import Derived.OpenShut
import Derived.LaidMore
import Derived.Lay
import Derived.SevenTiedAt
import Derived.Stop.Joined
section
namespace Go.Av.F
open Go Go.Av Go.Proofs Go.Proofs.Tryz
set_option linter.unusedSimpArgs false
set_option linter.unusedVariables false
set_option maxRecDepth 100000
def OpPut (name : List UInt8) (o : BO) : Prop := o.kind = 3 ∧ o.a = name ∧ o.b = [] ∧ 0 ≤ o.i ∧ o.i < 8 ∧ o.text.length ≤ 24
theorem word_put {w name : List UInt8} (h : (wordB w name).2 = true) : OpPut name (wordB w name).1 := by
  unfold wordB at h ⊢
  split
  · rename_i h1
    rw [if_pos h1] at h
    cases h
  · rename_i h1
    rw [if_neg h1] at h
    simp only [Bool.and_eq_true, decide_eq_true_eq] at h
    exact ⟨rfl, rfl, rfl, h.1.1.2, h.1.2, h.2⟩
theorem readL_put {name : List UInt8} : ∀ (ws : List (List UInt8)) (out l : List BO), readL name ws out = some l → (∀ o ∈ out, OpPut name o) → ∀ o ∈ l, OpPut name o
  | [], out, l, h, ho => by
    simp only [readL, Option.some.injEq] at h
    rw [← h]
    exact ho
  | w :: r, out, l, h, ho => by
    unfold readL at h
    split at h
    · cases h
    · rename_i h1
      simp only [not_or, Bool.not_eq_false, Bool.not_eq_true] at h1
      refine readL_put r _ l h fun o h2 => ?_
      rcases List.mem_append.1 h2 with h2 | h2
      · exact ho o h2
      · rw [List.mem_singleton.1 h2]
        exact word_put h1.1
theorem sread_put (text name : List UInt8) : ∀ o ∈ (sreadB text name).1, OpPut name o := by
  unfold sreadB
  split
  · simp
  · split
    · simp
    · rename_i l hl
      exact readL_put _ _ _ hl (by simp)
def setBl (k : Nat) (bs : List BS) (o : BO) : List BS := match bs[k]? with
  | some t => bs.set k { t with bl := t.bl.set o.i.toNat o.text }
  | none => bs
def applyB (bs : List BS) (name text : List UInt8) : List BS × Int :=
  if bookOkB bs = false then ([], 5) else if (sreadB text name).2 = false then (bs, 5) else if atB bs name = false then (bs, 1) else
  match bs[atP bs name]? with
  | some t => if t.kind ≠ 1 then (bs, 3) else ((sreadB text name).1.foldl (setBl (atP bs name)) bs, 0)
  | none => (bs, 1)
def AtVol (bs : List BS) (name : List UInt8) (k : Nat) (b : List BS) : Prop := b.map BS.name = bs.map BS.name ∧ (∀ x ∈ b, x.bl.length = 8) ∧ ∃ t, b[k]? = some t ∧ t.kind = 1
theorem atP_map {a b : List BS} (h : a.map BS.name = b.map BS.name) (n : List UInt8) : atP a n = atP b n := by
  unfold atP
  have : ∀ (a b : List BS), a.map BS.name = b.map BS.name → (a.takeWhile fun x => Op.bytesLess x.name n).length = (b.takeWhile fun x => Op.bytesLess x.name n).length := by
    intro a
    induction a with
    | nil => intro b h; cases b with
      | nil => rfl
      | cons y b => simp at h
    | cons x a ih => intro b h; cases b with
      | nil => simp at h
      | cons y b =>
        simp only [List.map_cons, List.cons.injEq] at h
        simp only [List.takeWhile_cons, h.1]
        split
        · simp [ih b h.2]
        · rfl
  exact this a b h
theorem atB_map {a b : List BS} (h : a.map BS.name = b.map BS.name) (n : List UInt8) : atB a n = atB b n := by
  unfold atB
  rw [atP_map h]
  have h2 : (a.map BS.name)[atP b n]? = (b.map BS.name)[atP b n]? := by rw [h]
  simp only [List.getElem?_map] at h2
  cases h3 : a[atP b n]? <;> cases h4 : b[atP b n]? <;> simp_all
theorem setBl_vol {bs b : List BS} {name : List UInt8} {k : Nat} (h : AtVol bs name k b) (o : BO) : AtVol bs name k (setBl k b o) := by
  obtain ⟨h1, h2, t, h3, h4⟩ := h
  have hk := (List.getElem?_eq_some_iff.1 h3).1
  unfold setBl
  rw [h3]
  simp only
  refine ⟨?_, fun x hx => ?_, { t with bl := t.bl.set o.i.toNat o.text }, by rw [List.getElem?_set_self hk], h4⟩
  · rw [List.map_set, ← h1]
    have : (b.map BS.name)[k]? = some t.name := by rw [List.getElem?_map, h3]; rfl
    refine List.ext_getElem? fun j => ?_
    by_cases hj : j = k
    · subst hj
      rw [List.getElem?_set_self (by simpa using hk), this]
    · rw [List.getElem?_set_ne (Ne.symm hj)]
  · rcases List.mem_or_eq_of_mem_set hx with hx | rfl
    · exact h2 x hx
    · simpa using h2 t (List.mem_of_getElem? h3)
theorem doB_put {bs b : List BS} {name : List UInt8} {k : Nat} (h : AtVol bs name k b) (hk : atP bs name = k) (hb : atB bs name = true) {o : BO} (ho : OpPut name o) : doB b o = (setBl k b o, 0) := by
  obtain ⟨h1, h2, t, h3, h4⟩ := h
  obtain ⟨o1, o2, o3, o4, o5, o6⟩ := ho
  have e1 : atP b o.a = k := by rw [o2, atP_map h1, hk]
  have e2 : atB b o.a = true := by rw [o2, atB_map h1, hb]
  unfold doB
  rw [if_neg (by omega), if_neg (by omega), e1, e2, h3]
  simp only [Bool.true_eq_false, if_false]
  rw [if_neg (by omega), if_pos o1]
  unfold putB setBl
  rw [h3]
  simp only
  rw [if_neg (by omega), if_neg (by omega)]
theorem sapplyC (bs : List BS) (name text : List UInt8) (h : BkS bs) (ht : text.length ≤ 1048576) : CV prog 12 [bk bs, .str name, .str text] (.tup [bk (applyB bs name text).1, .int .i64 (applyB bs name text).2]) := by
  obtain ⟨R, hR⟩ : ∃ R, applyB bs name text = R := ⟨_, rfl⟩
  rw [hR]
  unfold applyB at hR
  have hl := h.1
  have hB : ∀ b ∈ bs, b.bl.length = 8 := fun b hb => (h.2 b hb).1
  have hpt := sread_put text name
  have hsl := sread_len text name
  have c1 := sreadC text name ht
  have c2 := cv_of (bookOkC bs (by omega) hB (fun b hb => by have := (h.2 b hb).2.1; omega)) (hca := by simp [bk])
  have c3 := copyC bs (by omega)
  have c4 := cv_of (atC bs name (by omega)) (hca := by simp [bk])
  generalize sreadB text name = x at *
  obtain ⟨l, ok⟩ := x
  simp only at hpt hsl c1 hR
  refine CV.of_frz (R := fun r L' => ∃ id, r = .tup [.agg [.sl id 0 R.1.length], .int .i64 R.2] ∧ L' = [(id, bkOb R.1)] ∨ r = .tup [.agg [.nils], .int .i64 R.2] ∧ L' = [] ∧ R.1 = []) ?_ ?_ (hca := by simp [bk]) (hcv := by simp [bk])
  rotate_left
  · rintro r L' ⟨id, ⟨rfl, rfl⟩ | ⟨rfl, rfl, h0⟩⟩
    · refine ⟨by simp, by simp, by simp, ?_⟩
      simp [frzAll, bk, bkOb]
      exact impA_refl _
    · refine ⟨by simp, by simp, by simp, ?_⟩
      rw [h0]
      simp only [frzAll, bk, List.map_nil]
      exact impA_tup2 (impA_agg1 (impA_nils 11)) (impA_refl _)
  refine acx func12 [(15, [⟨0, [12], [], [], []⟩, ⟨1, [], [12], [], []⟩, ⟨2, [], [12], [], []⟩, ⟨3, [], [12], [], []⟩, ⟨4, [], [12], [], []⟩, ⟨5, [], [], [], []⟩, ⟨6, [], [], [], []⟩, ⟨7, [], [], [], []⟩, ⟨8, [], [], [], []⟩, ⟨9, [], [], [], []⟩])] ntmps12 rfl rfl rfl ?_
  simp -implicitDefEqProofs [bk]
  refine c1.call ?_
  simp -implicitDefEqProofs [bk]
  refine c2.call ?_
  cases hok : bookOkB bs with
  | false =>
    rw [if_pos hok] at hR
    simp -implicitDefEqProofs [← hR]
  | true =>
    rw [if_neg (by simp [hok])] at hR
    cases ok with
    | false =>
      rw [if_pos rfl] at hR
      simp -implicitDefEqProofs [bk]
      refine callA_wh [] (by kernel_rfl) c3 (by simp [bk]) (by simp) (by simp) (by simp) (by simp) ?_
      rintro r L' ⟨rfl, rfl⟩
      refine ⟨[(6, 900)], ⟨by simp, by simp, by simp, by simp, by simp⟩, ?_⟩
      simp -implicitDefEqProofs [← hR]
    | true =>
      rw [if_neg (by simp)] at hR
      simp -implicitDefEqProofs [bk]
      refine c4.call ?_
      cases hat : atB bs name with
      | false =>
        rw [if_pos hat] at hR
        simp -implicitDefEqProofs [bk]
        refine callA_wh [] (by kernel_rfl) c3 (by simp [bk]) (by simp) (by simp) (by simp) (by simp) ?_
        rintro r L' ⟨rfl, rfl⟩
        refine ⟨[(6, 900)], ⟨by simp, by simp, by simp, by simp, by simp⟩, ?_⟩
        simp -implicitDefEqProofs [← hR]
      | true =>
        rw [if_neg (by simp [hat])] at hR
        obtain ⟨t, hk, htn⟩ := atB_some hat
        have hkl := (List.getElem?_eq_some_iff.1 hk).1
        have hk0 := (List.getElem?_eq_some_iff.1 hk).2
        have htm := List.mem_of_getElem? hk
        have ht8 := hB t htm
        rw [hk] at hR
        have hP : atP bs name = atP bs name := rfl
        generalize hkk : atP bs name = k at *
        by_cases hkd : t.kind = 1
        · simp only [hkd, ne_eq, not_true_eq_false, if_false] at hR
          simp -implicitDefEqProofs [bk, hkl, hk, hk0, row_len _ ht8, hkd]
          refine callA_wh [] (by kernel_rfl) c3 (by simp [bk]) (by simp) (by simp) (by simp) (by simp) ?_
          rintro r L' ⟨rfl, rfl⟩
          refine ⟨[(6, 900)], ⟨by simp, by simp, by simp, by simp, by simp⟩, ?_⟩
          simp -implicitDefEqProofs
          refine ev_lo (X := Nat × List BS) [6, 8, 12, 13] [(6, 6), (12, 12), (900, 900)] (fun x => [(13, .int .i64 x.1)]) (fun x => [(6, ⟨1, [[.nils]]⟩), (12, ⟨1, [[.sl 900 0 x.2.length]]⟩), (900, bkOb x.2)]) (fun x => l.length - x.1)
            (fun x => x.1 ≤ l.length ∧ x.2.length = bs.length ∧ AtVol bs name k x.2 ∧ (l.drop x.1).foldl (setBl k) x.2 = R.1) (0, bs) ⟨by simp, rfl, ⟨rfl, hB, t, hk, hkd⟩, by simp [← hR]⟩ ?_ (he := by simp [obOf])
          rintro ⟨i, b⟩ ⟨hi, hbl, hv, hd⟩
          simp only at hi hbl hv hd
          have hR2 : R.2 = 0 := by rw [← hR]
          cases hr : l.drop i with
          | nil =>
            have := dropn hr
            rw [hr] at hd
            have hie : i = l.length := by omega
            subst hie
            simp only [List.foldl_nil] at hd
            simp -implicitDefEqProofs
            exact ⟨[(900, bkOb R.1)], by simp [hd], 900, ⟨⟨rfl, by rw [hd]⟩, hR2.symm⟩, rfl⟩
          | cons o q =>
            obtain ⟨g1, g0, g2, g3⟩ := dropc hr
            rw [hr, List.foldl_cons] at hd
            have hop := hpt o (List.mem_of_getElem? g2)
            have g1' : (i : Int) < l.length := by omega
            have e1 := i64w ((i : Int) + 1) (by omega) (by omega)
            have hdo := doB_put hv hkk hat hop
            have hnm : ∀ x ∈ b, x.name.length < 1000000000 := fun x hx => by
              have : x.name ∈ b.map BS.name := List.mem_map_of_mem hx
              rw [hv.1] at this
              obtain ⟨y, hy, e⟩ := List.mem_map.1 this
              have := (h.2 y hy).2.1
              rw [← e]
              omega
            have cd := doC b o (by omega) hv.2.1 hnm ⟨by have h2 := hop.2.1; rw [h2, ← htn]; have := (h.2 t htm).2.1; omega, by rw [hop.2.2.1]; simp⟩
            rw [hdo] at cd
            have hsv := setBl_vol hv o
            have hsl2 : (setBl k b o).length = b.length := by
              have h1 := congrArg List.length hsv.1
              have h2 := congrArg List.length hv.1
              simp only [List.length_map] at h1 h2
              omega
            have hrl : o.row.length = 5 := rfl
            have htk : List.take 5 o.row = o.row := rfl
            simp -implicitDefEqProofs [g1', g1, g0, g2, hrl, htk]
            refine callA_wh [(1000, .whole 900)] (by kernel_rfl) cd (by simp [BO.row]) (by simp) (by simp [bkOb]; exact rowsMt_cl rfl (by simp [clR])) (by simp) (by simp) ?_
            rintro r L' ⟨id, hid, rfl, rfl⟩
            simp only [List.mem_cons, List.not_mem_nil, or_false] at hid
            rcases hid with rfl | rfl
            · refine ⟨[], ⟨by simp, by simp, by simp, by simp, by simp⟩, ?_⟩
              simp -implicitDefEqProofs
              exact nx (i + 1, setBl k b o) [(6, 6), (12, 12), (900, 900)] ⟨by simp only; omega, by simp only; omega, hsv, by simp only [g3]; exact hd⟩ (by simp only; omega) (h4 := by simp [obOf, e1])
            · refine ⟨[(900, 901)], ⟨by simp, by simp, by simp, by simp, by simp⟩, ?_⟩
              simp -implicitDefEqProofs
              exact nx (i + 1, setBl k b o) [(6, 6), (12, 12), (901, 900)] ⟨by simp only; omega, by simp only; omega, hsv, by simp only [g3]; exact hd⟩ (by simp only; omega) (h4 := by simp [obOf, e1])
        · simp only [hkd, ne_eq, not_false_eq_true, if_true] at hR
          simp -implicitDefEqProofs [bk, hkl, hk, hk0, row_len _ ht8, hkd]
          refine callA_wh [] (by kernel_rfl) c3 (by simp [bk]) (by simp) (by simp) (by simp) (by simp) ?_
          rintro r L' ⟨rfl, rfl⟩
          refine ⟨[(6, 900)], ⟨by simp, by simp, by simp, by simp, by simp⟩, ?_⟩
          simp -implicitDefEqProofs [← hR]
theorem iapplyO (bs : List BS) (name text : List UInt8) (h : BkS bs) (ht : text.length ≤ 1048576) : ACall prog 14 [bk bs, .str name, .str text] [] (fun r L' => (r = .tup [.agg [.sl 900 0 (applyB bs name text).1.length], .int .i64 (applyB bs name text).2] ∧ L' = [(900, bkOb (applyB bs name text).1)]) ∨ (r = .tup [.agg [.nils], .int .i64 (applyB bs name text).2] ∧ L' = [] ∧ (applyB bs name text).1 = [])) := by
  obtain ⟨R, hR⟩ : ∃ R, applyB bs name text = R := ⟨_, rfl⟩
  rw [hR]
  unfold applyB at hR
  have hl := h.1
  have hB : ∀ b ∈ bs, b.bl.length = 8 := fun b hb => (h.2 b hb).1
  have hpt := sread_put text name
  have hsl := sread_len text name
  have c1 := ireadC text name ht
  have c2 := cv_of (ibookOkC bs (by omega) hB (fun b hb => by have := (h.2 b hb).2.1; omega)) (hca := by simp [bk])
  rw [ok_eq] at c2
  have c3 := ownC2 bs (by omega)
  generalize sreadB text name = x at *
  obtain ⟨l, ok⟩ := x
  simp only at hpt hsl c1 hR
  refine acx func14 [(15, [⟨0, [], [], [], []⟩, ⟨1, [8], [], [], []⟩, ⟨2, [], [8], [], []⟩, ⟨3, [], [8], [], []⟩, ⟨4, [14], [8], [], []⟩, ⟨5, [], [8, 14], [], []⟩, ⟨6, [14], [8, 14], [], []⟩, ⟨7, [900], [14], [], []⟩, ⟨8, [], [14], [], []⟩, ⟨9, [], [], [], []⟩, ⟨10, [], [], [], []⟩])] ntmps14 rfl rfl rfl ?_
  simp -implicitDefEqProofs [bk]
  refine c2.call ?_
  cases hok : bookOkB bs with
  | false =>
    rw [if_pos hok] at hR
    simp -implicitDefEqProofs [← hR]
  | true =>
    rw [if_neg (by simp [hok])] at hR
    have hS : Srt bs := pw_srt (okB_iff.1 hok).2.1
    have c4 := cv_of (placeC bs name (by omega) hB hS) (hca := by simp [bk])
    simp -implicitDefEqProofs [bk]
    refine callA_wh [] (by kernel_rfl) c3 (by simp [bk]) (by simp) (by simp) (by simp) (by simp) ?_
    rintro r L' ⟨rfl, rfl⟩
    refine ⟨[(900, 900)], ⟨by simp, by simp, by simp, by simp, by simp⟩, ?_⟩
    simp -implicitDefEqProofs [bk]
    refine c1.call ?_
    simp -implicitDefEqProofs [bk]
    refine c4.call ?_
    cases ok with
    | false =>
      rw [if_pos rfl] at hR
      simp -implicitDefEqProofs [← hR]
    | true =>
      rw [if_neg (by simp)] at hR
      cases hat : atB bs name with
      | false =>
        rw [if_pos hat] at hR
        simp -implicitDefEqProofs [← hR]
      | true =>
        rw [if_neg (by simp [hat])] at hR
        obtain ⟨t, hk, htn⟩ := atB_some hat
        have hkl := (List.getElem?_eq_some_iff.1 hk).1
        have hk0 := (List.getElem?_eq_some_iff.1 hk).2
        have htm := List.mem_of_getElem? hk
        have ht8 := hB t htm
        rw [hk] at hR
        generalize hkk : atP bs name = k at *
        by_cases hkd : t.kind = 1
        · simp only [hkd, ne_eq, not_true_eq_false, if_false] at hR
          simp -implicitDefEqProofs [bk, hkl, hk, hk0, row_len _ ht8, hkd]
          refine ev_lo (X := Nat × List BS) [6, 8, 11, 50, 51, 52] [(6, 6), (8, 8), (900, 900)] (fun x => [(52, .int .i64 x.1)]) (fun x => [(6, ⟨1, [[.nils]]⟩), (8, ⟨1, [[.sl 900 0 x.2.length]]⟩), (900, bkOb x.2)]) (fun x => l.length - x.1)
            (fun x => x.1 ≤ l.length ∧ x.2.length = bs.length ∧ AtVol bs name k x.2 ∧ (l.drop x.1).foldl (setBl k) x.2 = R.1) (0, bs) ⟨by simp, rfl, ⟨rfl, hB, t, hk, hkd⟩, by simp [← hR]⟩ ?_ (he := by simp [obOf])
          rintro ⟨i, b⟩ ⟨hi, hbl, hv, hd⟩
          simp only at hi hbl hv hd
          have hR2 : R.2 = 0 := by rw [← hR]
          cases hr : l.drop i with
          | nil =>
            have := dropn hr
            rw [hr] at hd
            have hie : i = l.length := by omega
            subst hie
            simp only [List.foldl_nil] at hd
            simp -implicitDefEqProofs
            exact ⟨by rw [hd], by rw [hd], hR2.symm⟩
          | cons o q =>
            obtain ⟨g1, g0, g2, g3⟩ := dropc hr
            rw [hr, List.foldl_cons] at hd
            have hop := hpt o (List.mem_of_getElem? g2)
            have g1' : (i : Int) < l.length := by omega
            have e1 := i64w ((i : Int) + 1) (by omega) (by omega)
            have hsv := setBl_vol hv o
            obtain ⟨u, hu, hu1⟩ := hv.2.2
            have hul := (List.getElem?_eq_some_iff.1 hu).1
            have hu0 := (List.getElem?_eq_some_iff.1 hu).2
            have hu8 := hv.2.1 u (List.mem_of_getElem? hu)
            have hsl2 : (setBl k b o).length = b.length := by
              have h1 := congrArg List.length hsv.1
              have h2 := congrArg List.length hv.1
              simp only [List.length_map] at h1 h2
              omega
            have hrl : o.row.length = 5 := rfl
            have htk : List.take 5 o.row = o.row := rfl
            have q3 : o.row[3] = AV.int .i64 o.i := rfl
            have q4 : o.row[4] = AV.str o.text := rfl
            obtain ⟨p1, p2, p3, p4, p5, p6⟩ := hop
            have hbl8 : 3 + o.i.toNat + 1 ≤ 11 := by omega
            simp -implicitDefEqProofs [g1', g1, g0, g2, hrl, htk, hul, hu, hu0, row_len _ hu8, q3, q4]
            have hone : ∀ (x : AV), x ∈ o.row → oneA x = true := fun x hx => by
              simp only [BO.row, List.mem_cons, List.not_mem_nil, or_false] at hx
              rcases hx with rfl | rfl | rfl | rfl | rfl <;> rfl
            refine ⟨hone, ⟨p4, p5⟩, by omega, ?_⟩
            have hrow := row_set u o.i.toNat o.text (by omega)
            have hset : setBl k b o = b.set k { u with bl := u.bl.set o.i.toNat o.text } := by
              unfold setBl
              rw [hu]
            refine nx (i + 1, setBl k b o) [(6, 6), (8, 8), (900, 900)] ⟨by simp only; omega, by simp only; omega, hsv, by simp only [g3]; exact hd⟩ (by simp only; omega) (h4 := ?_)
            simp [obOf, e1, hsl2]
            rw [hset]
            simp [bkOb, List.map_set, hrow]
        · simp only [hkd, ne_eq, not_false_eq_true, if_true] at hR
          simp -implicitDefEqProofs [bk, hkl, hk, hk0, row_len _ ht8, hkd, ← hR]
end Go.Av.F
end
section
namespace Go.Av.F
open Go Go.Av Go.Proofs Go.Proofs.Tryz
set_option linter.unusedSimpArgs false
set_option linter.unusedVariables false
set_option maxRecDepth 100000
theorem setBl_len (k : Nat) (b : List BS) (o : BO) : (setBl k b o).length = b.length := by
  unfold setBl
  split <;> simp
theorem setBl_8 (k : Nat) {b : List BS} (h : ∀ x ∈ b, x.bl.length = 8) (o : BO) : ∀ x ∈ setBl k b o, x.bl.length = 8 := by
  unfold setBl
  split
  · rename_i t ht
    intro x hx
    rcases List.mem_or_eq_of_mem_set hx with hx | rfl
    · exact h x hx
    · simpa using h t (List.mem_of_getElem? ht)
  · exact h
theorem foldBl_len (k : Nat) : ∀ (l : List BO) (b : List BS), (l.foldl (setBl k) b).length = b.length
  | [], b => rfl
  | o :: l, b => by rw [List.foldl_cons, foldBl_len k l, setBl_len]
theorem foldBl_8 (k : Nat) : ∀ (l : List BO) {b : List BS}, (∀ x ∈ b, x.bl.length = 8) → ∀ x ∈ l.foldl (setBl k) b, x.bl.length = 8
  | [], b, h => h
  | o :: l, b, h => by rw [List.foldl_cons]; exact foldBl_8 k l (setBl_8 k h o)
theorem applyB_len (bs : List BS) (name text : List UInt8) : (applyB bs name text).1.length ≤ bs.length := by
  unfold applyB
  repeat' split
  all_goals simp [foldBl_len]
theorem applyB_8 (bs : List BS) (name text : List UInt8) (h : ∀ x ∈ bs, x.bl.length = 8) : ∀ x ∈ (applyB bs name text).1, x.bl.length = 8 := by
  unfold applyB
  split
  · simp
  · split
    · exact h
    · split
      · exact h
      · split
        · split
          · exact h
          · exact foldBl_8 _ _ h
        · exact h
theorem iapply9 (bs : List BS) (name text : List UInt8) (h : BkS bs) (ht : text.length ≤ 1048576) : ACall prog 14 [bk bs, .str name, .str text] [] (fun r L' => r = .tup [.agg [.sl 900 0 (applyB bs name text).1.length], .int .i64 (applyB bs name text).2] ∧ L' = [(900, bkOb (applyB bs name text).1)]) := by
  refine ACall.ph 900 11 (iapplyO bs name text h ht) (by simp) ?_
  rintro r L' (⟨rfl, rfl⟩ | ⟨rfl, rfl, h0⟩)
  · exact .inl ⟨rfl, rfl⟩
  · exact .inr ⟨by simp, by simp, _, phs_tup1, by rw [h0]; exact ⟨rfl, rfl⟩⟩
theorem iapplyC (bs : List BS) (name text : List UInt8) (h : BkS bs) (ht : text.length ≤ 1048576) : CV prog 14 [bk bs, .str name, .str text] (.tup [bk (applyB bs name text).1, .int .i64 (applyB bs name text).2]) := by
  refine CV.of_frz (iapply9 bs name text h ht) ?_ (hca := by simp [bk]) (hcv := by simp [bk])
  rintro r L' ⟨rfl, rfl⟩
  refine ⟨by simp, by simp, by simp, ?_⟩
  simp [frzAll, bk, bkOb]
  exact impA_refl _
end Go.Av.F
end
section
namespace Go.Av.F
open Go Go.Av Go.Proofs Go.Proofs.Tryz
set_option linter.unusedSimpArgs false
set_option linter.unusedVariables false
set_option maxRecDepth 100000
def digB (n : Nat) : UInt8 := hexL.getD n 0
theorem sdigC (n : Nat) (h : n < 16) : CV prog 108 [.int .i64 n] (.int .u8 (digB n).toNat) := by
  refine cvx func108 [] ntmps108 rfl rfl rfl ?_
  have hn : (n : Int) < 16 := by omega
  have h0 : n < hexL.length := by simpa [hexL] using h
  have e : hexL[n]'h0 = digB n := by simp [digB, List.getD, h0]
  simp only [hexL] at h0 e
  simp -implicitDefEqProofs [hn, h0, h, e]
  try omega
def hexB : List UInt8 → List UInt8
  | [] => []
  | c :: r => digB (c.toNat / 16) :: digB (c.toNat % 16) :: hexB r
theorem hexB_len : ∀ s, (hexB s).length = 2 * s.length
  | [] => rfl
  | c :: r => by simp [hexB, hexB_len r]; omega
theorem shexC (s : List UInt8) (hs : s.length ≤ 1048576) : CV prog 67 [.str s] (.str (hexB s)) := by
  obtain ⟨R, hR⟩ : ∃ R, hexB s = R := ⟨_, rfl⟩
  rw [hR]
  refine cvx func67 [(5, [⟨0, [], [], [], []⟩, ⟨1, [], [], [], []⟩, ⟨2, [], [], [], []⟩, ⟨3, [], [], [], []⟩, ⟨4, [], [], [], []⟩, ⟨5, [], [], [], []⟩, ⟨7, [], [], [], []⟩, ⟨8, [], [], [], []⟩, ⟨9, [], [], [], []⟩, ⟨10, [], [], [], []⟩, ⟨11, [], [], [], []⟩, ⟨6, [], [], [], []⟩, ⟨12, [], [], [], []⟩, ⟨13, [], [], [], []⟩, ⟨14, [], [], [], []⟩, ⟨15, [], [], [], []⟩])] ntmps67 rfl rfl rfl ?_
  simp -implicitDefEqProofs
  refine ev_lo (X := Nat × List UInt8) [0, 3, 4] [(5, 900)] (fun x => [(4, .int .i64 x.1), (3, .sl 900 0 x.2.length)]) (fun x => [(900, ⟨1, x.2.map u8row⟩)]) (fun x => s.length - x.1) (fun x => x.1 ≤ s.length ∧ x.2.length = 2 * x.1 ∧ x.2 ++ hexB (s.drop x.1) = R) (0, []) (by simp [hR]) ?_ (he := by simp [obOf])
  rintro ⟨i, out⟩ ⟨hi, hol, hd⟩
  simp only at hi hol hd
  cases hr : s.drop i with
  | nil =>
    have := dropn hr
    rw [hr, hexB] at hd
    have hie : i = s.length := by omega
    subst hie
    simp only [List.append_nil] at hd
    simp -implicitDefEqProofs [byteOf_u8, List.take_of_length_le, hd]
    exact fun x _ => rfl
  | cons x r =>
    obtain ⟨h1, e0, e1, h3⟩ := dropc hr
    rw [hr, hexB] at hd
    have e2 := i64w ((i : Int) + 1) (by omega) (by omega)
    have hx := x.toNat_lt
    have w1 := i64w (x.toNat : Int) (by omega) (by omega)
    have q1 : ((x.toNat : Int)).tdiv 16 = (x.toNat : Int) / 16 := Int.tdiv_eq_ediv_of_nonneg (by omega)
    have q2 : ((x.toNat : Int)).tmod 16 = (x.toNat : Int) % 16 := Int.tmod_eq_emod_of_nonneg (by omega)
    have w2 := i64w ((x.toNat : Int) / 16) (by omega) (by omega)
    have c1 := sdigC (x.toNat / 16) (by omega)
    have c2 := sdigC (x.toNat % 16) (by omega)
    rw [show ((x.toNat / 16 : Nat) : Int) = (x.toNat : Int) / 16 by omega] at c1
    rw [show ((x.toNat % 16 : Nat) : Int) = (x.toNat : Int) % 16 by omega] at c2
    simp -implicitDefEqProofs [h1, e0, e1, w1, q1, q2, w2]
    refine c1.call ?_
    simp -implicitDefEqProofs [h1, e0, e1, w1, q1, q2, w2]
    refine c2.call ?_
    simp -implicitDefEqProofs
    refine ⟨by omega, ?_⟩
    refine nx (i + 1, out ++ [digB (x.toNat / 16), digB (x.toNat % 16)]) [(26, 900)] ⟨by simp only; omega, by simp; omega, by simp only [h3]; simpa using hd⟩ (by simp only; omega) (h4 := ?_)
    simp [obOf, e2, List.take_of_length_le, renL_u8c, u8row]
    try trace_state
def blkB (bs : List BS) (name : List UInt8) : List (List UInt8) × Bool :=
  if name = [] then (zbl, true) else if atB bs name = false then (zbl, false) else match bs[atP bs name]? with
  | some t => (t.bl, true)
  | none => (zbl, false)
theorem blkB_8 {bs : List BS} (hB : ∀ b ∈ bs, b.bl.length = 8) (name : List UInt8) : (blkB bs name).1.length = 8 := by
  unfold blkB
  split
  · rfl
  · split
    · rfl
    · split
      · rename_i t ht
        exact hB t (List.mem_of_getElem? ht)
      · rfl
theorem sblkC (bs : List BS) (name : List UInt8) (h : BkS bs) : CV prog 65 [bk bs, .str name] (.tup [.agg ((blkB bs name).1.map .str), .bool (blkB bs name).2]) := by
  obtain ⟨R, hR⟩ : ∃ R, blkB bs name = R := ⟨_, rfl⟩
  rw [hR]
  unfold blkB at hR
  have hl := h.1
  have hB : ∀ b ∈ bs, b.bl.length = 8 := fun b hb => (h.2 b hb).1
  have c4 := cv_of (atC bs name (by omega)) (hca := by simp [bk])
  refine cvx func65 [] ntmps65 rfl rfl rfl ?_ (hca := by simp [bk])
  simp -implicitDefEqProofs [bk]
  refine c4.call ?_
  by_cases hn : name = []
  · rw [if_pos hn] at hR
    simp -implicitDefEqProofs [hn, ← hR, zbl]
  · rw [if_neg hn] at hR
    cases hat : atB bs name with
    | false =>
      rw [if_pos hat] at hR
      simp -implicitDefEqProofs [hn, ← hR, zbl]
    | true =>
      rw [if_neg (by simp [hat])] at hR
      obtain ⟨t, hk, htn⟩ := atB_some hat
      have hkl := (List.getElem?_eq_some_iff.1 hk).1
      have hk0 := (List.getElem?_eq_some_iff.1 hk).2
      have ht8 := hB t (List.mem_of_getElem? hk)
      rw [hk] at hR
      simp only at hR
      generalize hkk : atP bs name = k at *
      have hrb : List.take 8 (List.map AV.str t.bl) = List.map AV.str t.bl := List.take_of_length_le (by simp [ht8])
      simp -implicitDefEqProofs [hn, hkl, hk, hk0, row_len _ ht8, ← hR, hrb, ht8]
def diffR : Nat → List (List UInt8) → List (List UInt8) → List Int
  | i, a :: r, b :: q => if a = b then diffR (i + 1) r q else (i : Int) :: diffR (i + 1) r q
  | _, _, _ => []
def diffB (bs : List BS) (x y : List UInt8) : List Int :=
  if bookOkB bs = true ∧ (blkB bs x).2 = true ∧ (blkB bs y).2 = true then diffR 0 (blkB bs x).1 (blkB bs y).1 else []
theorem diffR_at : ∀ (x y : List (List UInt8)) (i j : Nat) (a b : List UInt8), x[j]? = some a → y[j]? = some b → diffR i (x.drop j) (y.drop j) = if a = b then diffR (i + 1) (x.drop (j + 1)) (y.drop (j + 1)) else (i : Int) :: diffR (i + 1) (x.drop (j + 1)) (y.drop (j + 1)) := by
  intro x y i j a b h1 h2
  rw [dropAt h1, dropAt h2, diffR]
theorem diffR_mem : ∀ (x y : List (List UInt8)) (i : Nat), ∀ k ∈ diffR i x y, (i : Int) ≤ k ∧ k < i + x.length
  | [], _, i, k, h => by simp [diffR] at h
  | a :: r, [], i, k, h => by simp [diffR] at h
  | a :: r, b :: q, i, k, h => by
    unfold diffR at h
    split at h
    · have := diffR_mem r q (i + 1) k h
      simp only [List.length_cons]
      omega
    · rcases List.mem_cons.1 h with rfl | h
      · simp only [List.length_cons]
        omega
      · have := diffR_mem r q (i + 1) k h
        simp only [List.length_cons]
        omega
theorem diffR_len : ∀ (x y : List (List UInt8)) (i : Nat), (diffR i x y).length ≤ x.length
  | [], _, i => by simp [diffR]
  | a :: r, [], i => by simp [diffR]
  | a :: r, b :: q, i => by
    unfold diffR
    have := diffR_len r q (i + 1)
    split <;> simp <;> omega
theorem renL_intc (ρ : Nat → Option Plc) : renL ρ ∘ intRow = intRow := by
  funext c
  simp [intRow]
theorem sdiffC (bs : List BS) (x y : List UInt8) (h : BkS bs) : CV prog 26 [bk bs, .str x, .str y] (.lst 1 ((diffB bs x y).map intRow)) := by
  obtain ⟨R, hR⟩ : ∃ R, diffB bs x y = R := ⟨_, rfl⟩
  rw [hR]
  unfold diffB at hR
  have hl := h.1
  have hB : ∀ b ∈ bs, b.bl.length = 8 := fun b hb => (h.2 b hb).1
  have c1 := sblkC bs x h
  have c2 := sblkC bs y h
  have c3 := cv_of (bookOkC bs (by omega) hB (fun b hb => by have := (h.2 b hb).2.1; omega)) (hca := by simp [bk])
  have a8 := blkB_8 hB x
  have b8 := blkB_8 hB y
  generalize blkB bs x = u at *
  generalize blkB bs y = v at *
  obtain ⟨u1, u2⟩ := u
  obtain ⟨v1, v2⟩ := v
  simp only at c1 c2 a8 b8 hR
  refine CV.of_frz (R := fun r L' => r = .sl 900 0 R.length ∧ L' = [(900, ⟨1, R.map intRow⟩)]) ?_ ?_ (hca := by simp [bk])
  rotate_left
  · rintro r L' ⟨rfl, rfl⟩
    refine ⟨by simp, by simp, by simp [clR, intRow, clL, clA], ?_⟩
    simp [frzAll, List.take_of_length_le]
    exact impA_refl _
  refine acx func26 [(7, [⟨0, [], [], [], []⟩, ⟨1, [], [], [], []⟩, ⟨2, [8], [], [], []⟩, ⟨3, [], [8], [], []⟩, ⟨4, [], [8], [], []⟩, ⟨5, [10], [8], [], []⟩, ⟨6, [], [], [], []⟩])] ntmps26 rfl rfl rfl ?_
  simp -implicitDefEqProofs [bk]
  refine c1.call ?_
  have hrb : List.take 8 (List.map AV.str u1) = List.map AV.str u1 := List.take_of_length_le (by simp [a8])
  have hrc : List.take 8 (List.map AV.str v1) = List.map AV.str v1 := List.take_of_length_le (by simp [b8])
  simp -implicitDefEqProofs [a8, hrb]
  refine c2.call ?_
  simp -implicitDefEqProofs [b8, hrc]
  refine ev_lo (X := Nat × List Int) [3, 7, 8, 9, 10, 11, 12] [(3, 3), (8, 8), (10, 10), (13, 900)] (fun w => [(12, .int .i64 w.1), (7, .sl 900 0 w.2.length)]) (fun w => [(3, ⟨1, [[.lst 11 (bs.map BS.row)]]⟩), (8, ⟨8, [u1.map .str]⟩), (10, ⟨8, [v1.map .str]⟩), (900, ⟨1, w.2.map intRow⟩)]) (fun w => 8 - w.1)
    (fun w => w.1 ≤ 8 ∧ w.2.length ≤ w.1 ∧ (if bookOkB bs = true ∧ u2 = true ∧ v2 = true then w.2 ++ diffR w.1 (u1.drop w.1) (v1.drop w.1) else []) = R ∧ (¬ (bookOkB bs = true ∧ u2 = true ∧ v2 = true) → w.2 = [])) (0, []) ⟨by simp, by simp, by simpa using hR, fun _ => rfl⟩ ?_ (he := by simp [obOf, hrb, hrc])
  rintro ⟨i, out⟩ ⟨hi, hol, hd, hz⟩
  simp only at hi hol hd hz
  simp -implicitDefEqProofs [bk]
  refine c3.call ?_
  by_cases hk : bookOkB bs = true ∧ u2 = true ∧ v2 = true
  · rw [if_pos hk] at hd
    obtain ⟨k1, k2, k3⟩ := hk
    by_cases hi8 : i < 8
    · obtain ⟨a, f1⟩ : ∃ a, u1[i]? = some a := ⟨_, List.getElem?_eq_getElem (by omega)⟩
      obtain ⟨b, g1⟩ : ∃ b, v1[i]? = some b := ⟨_, List.getElem?_eq_getElem (by omega)⟩
      have f0 := (List.getElem?_eq_some_iff.1 f1).2
      have g0 := (List.getElem?_eq_some_iff.1 g1).2
      have hiu : i < u1.length := by omega
      have hiv : i < v1.length := by omega
      have hi8' : (i : Int) < 8 := by omega
      have e1 := i64w ((i : Int) + 1) (by omega) (by omega)
      rw [diffR_at u1 v1 i i a b f1 g1] at hd
      simp -implicitDefEqProofs [k1, k2, k3, hi8, hi8', f1, f0, g1, g0, hiu, hiv, a8, b8]
      by_cases hab : a = b
      · rw [if_pos hab] at hd
        simp -implicitDefEqProofs [hab]
        exact nx (i + 1, out) [(3, 3), (8, 8), (10, 10), (900, 900)] ⟨by simp only; omega, by simp only; omega, hd⟩ (by simp only; omega) (h4 := by simp [obOf, e1, renL_intc])
      · rw [if_neg hab] at hd
        simp -implicitDefEqProofs [hab]
        refine ⟨by omega, ?_⟩
        exact nx (i + 1, out ++ [(i : Int)]) [(3, 3), (8, 8), (10, 10), (50, 900)] ⟨by simp only; omega, by simp only [List.length_append, List.length_singleton]; omega, by simpa using hd⟩ (by simp only; omega) (h4 := by simp [obOf, e1, renL_intc, intRow, List.take_of_length_le])
    · have hie : i = 8 := by omega
      subst hie
      rw [List.drop_eq_nil_of_le (by omega), diffR, List.append_nil] at hd
      · simp -implicitDefEqProofs [k1, k2, k3, hd]
      · simp
  · rw [if_neg hk] at hd
    have hz' := hz hk
    cases h1 : bookOkB bs with
    | false => simp -implicitDefEqProofs [hz', ← hd]
    | true =>
      cases u2 with
      | false => simp -implicitDefEqProofs [hz', ← hd]
      | true =>
        cases v2 with
        | false => simp -implicitDefEqProofs [hz', ← hd]
        | true => exact absurd ⟨h1, rfl, rfl⟩ hk
def makR (y : List (List UInt8)) : List Int → List UInt8 → List UInt8
  | [], out => out
  | k :: r, out => makR y r (out ++ [32] ++ ddig k.toNat [] ++ [61] ++ hexB (y.getD k.toNat []))
def makeB (bs : List BS) (x y : List UInt8) : List UInt8 :=
  if bookOkB bs = true ∧ (blkB bs x).2 = true ∧ (blkB bs y).2 = true then sealB (makR (blkB bs y).1 (diffB bs x y) [115, 101, 110, 100]) else []
theorem blkB_24 {bs : List BS} (h : bookOkB bs = true) (hB : ∀ b ∈ bs, b.bl.length = 8) (name : List UInt8) : ∀ t ∈ (blkB bs name).1, t.length ≤ 24 := by
  have hz : ∀ t ∈ zbl, t.length ≤ 24 := by simp [zbl]
  unfold blkB
  split
  · exact hz
  · split
    · exact hz
    · split
      · rename_i u hu
        exact ((okB_iff.1 h).2.2 u (List.mem_of_getElem? hu)).1.2.2.2
      · exact hz
theorem ddig_small {k : Nat} (h : k < 10) : ddig k [] = [UInt8.ofNat (48 + k)] := by
  rw [ddig, dif_pos (by omega)]
theorem smakeC (bs : List BS) (x y : List UInt8) (h : BkS bs) : CV prog 25 [bk bs, .str x, .str y] (.str (makeB bs x y)) := by
  obtain ⟨R, hR⟩ : ∃ R, makeB bs x y = R := ⟨_, rfl⟩
  rw [hR]
  unfold makeB at hR
  have hl := h.1
  have hml : maxLen = 9223372036854775807 := rfl
  have hB : ∀ b ∈ bs, b.bl.length = 8 := fun b hb => (h.2 b hb).1
  have c1 := sblkC bs x h
  have c2 := sblkC bs y h
  have c3 := cv_of (bookOkC bs (by omega) hB (fun b hb => by have := (h.2 b hb).2.1; omega)) (hca := by simp [bk])
  have c4 := sdiffC bs x y h
  have a8 := blkB_8 hB x
  have b8 := blkB_8 hB y
  have hdl : (diffB bs x y).length ≤ 8 := by
    unfold diffB
    split
    · have := diffR_len (blkB bs x).1 (blkB bs y).1 0
      omega
    · simp
  have hdm : ∀ k ∈ diffB bs x y, 0 ≤ k ∧ k < 8 := by
    unfold diffB
    split
    · intro k hk
      have := diffR_mem _ _ _ k hk
      omega
    · simp
  have b24 : bookOkB bs = true → ∀ t ∈ (blkB bs y).1, t.length ≤ 24 := fun hk => blkB_24 hk hB y
  generalize diffB bs x y = l at *
  generalize blkB bs x = u at *
  generalize blkB bs y = v at *
  obtain ⟨u1, u2⟩ := u
  obtain ⟨v1, v2⟩ := v
  simp only at c1 c2 a8 b8 hR b24
  refine cvx func25 [(10, [⟨0, [], [], [], []⟩, ⟨1, [], [], [], []⟩, ⟨2, [], [], [], []⟩, ⟨3, [], [], [], []⟩, ⟨4, [9], [], [], []⟩, ⟨5, [9], [], [], []⟩, ⟨9, [], [9], [], []⟩, ⟨10, [], [9], [], []⟩, ⟨11, [9], [9], [], []⟩, ⟨12, [9], [9], [], []⟩, ⟨13, [9], [9], [], []⟩, ⟨14, [9], [9], [], []⟩, ⟨6, [], [9], [], []⟩, ⟨7, [], [9], [], []⟩, ⟨8, [], [9], [], []⟩, ⟨15, [], [], [], []⟩, ⟨16, [], [], [], []⟩, ⟨17, [], [], [], []⟩])] ntmps25 rfl rfl rfl ?_ (hca := by simp [bk])
  simp -implicitDefEqProofs [bk]
  refine c1.call ?_
  have hrb : List.take 8 (List.map AV.str u1) = List.map AV.str u1 := List.take_of_length_le (by simp [a8])
  have hrc : List.take 8 (List.map AV.str v1) = List.map AV.str v1 := List.take_of_length_le (by simp [b8])
  simp -implicitDefEqProofs [a8, hrb]
  refine c2.call ?_
  simp -implicitDefEqProofs [b8, hrc, bk]
  refine c3.call ?_
  cases k1 : bookOkB bs with
  | false =>
    rw [if_neg (by simp [k1])] at hR
    simp -implicitDefEqProofs [← hR]
  | true =>
    cases u2 with
    | false =>
      rw [if_neg (by simp)] at hR
      simp -implicitDefEqProofs [← hR]
    | true =>
      cases v2 with
      | false =>
        rw [if_neg (by simp)] at hR
        simp -implicitDefEqProofs [← hR]
      | true =>
        rw [if_pos ⟨k1, rfl, rfl⟩] at hR
        have b24 := b24 k1
        simp -implicitDefEqProofs [bk]
        refine c4.call ?_
        simp -implicitDefEqProofs
        refine ev_lp (X := Nat × List UInt8) [9, 11, 12, 13] [(9, 9)] (fun w => [(13, .int .i64 w.1), (12, .str w.2)]) (fun w => [(9, ⟨8, [v1.map .str]⟩)]) (fun w => l.length - w.1)
          (fun w => w.1 ≤ l.length ∧ w.2.length ≤ 4 + 51 * w.1 ∧ sealB (makR v1 (l.drop w.1) w.2) = R) (0, [115, 101, 110, 100]) ⟨by simp, by simp, by simpa using hR⟩ ?_ (he := by simp [obOf])
        rintro ⟨i, out⟩ ⟨hi, hol, hd⟩
        simp only at hi hol hd
        cases hr : l.drop i with
        | nil =>
          have := dropn hr
          rw [hr, makR] at hd
          have hie : i = l.length := by omega
          subst hie
          simp -implicitDefEqProofs
          refine (ssealC out (by omega)).call ?_
          simp -implicitDefEqProofs [hd]
        | cons k r =>
          obtain ⟨h1, e0, e1, h3⟩ := dropc hr
          rw [hr, makR] at hd
          have hk := hdm k (List.mem_of_getElem? e1)
          have hi8 : i < 8 := by omega
          obtain ⟨t, ht⟩ : ∃ t, v1[k.toNat]? = some t := ⟨_, List.getElem?_eq_getElem (by omega)⟩
          have ht0 := (List.getElem?_eq_some_iff.1 ht).2
          have hkv : k.toNat < v1.length := by omega
          have h24 := b24 t (List.mem_of_getElem? ht)
          have e2 := i64w ((i : Int) + 1) (by omega) (by omega)
          have c5 := sdecC k.toNat (by omega)
          rw [show ((k.toNat : Nat) : Int) = k by omega] at c5
          have c6 := shexC t (by omega)
          have hgd : v1.getD k.toNat [] = t := by simp [List.getD, ht]
          rw [hgd] at hd
          have hdg : (ddig k.toNat []).length = 1 := by rw [ddig_small (by omega)]; rfl
          have hhl := hexB_len t
          simp -implicitDefEqProofs [h1, e0, e1, e2, intRow, hk.1, hk.2, b8, ht, ht0, hkv]
          refine ⟨by omega, ?_⟩
          refine c5.call ?_
          simp -implicitDefEqProofs [h1, e0, e1, e2, intRow, hk.1, hk.2, b8, ht, ht0, hkv, hdg]
          refine ⟨by omega, by omega, ?_⟩
          refine c6.call ?_
          simp -implicitDefEqProofs [hdg, hhl]
          refine ⟨by omega, ?_⟩
          exact nx (i + 1, out ++ [32] ++ ddig k.toNat [] ++ [61] ++ hexB t) [(9, 9)] ⟨by simp only; omega, by simp [hdg, hhl]; omega, by simp only [h3]; exact hd⟩ (by simp only; omega) (h4 := by simp [obOf, e2])
end Go.Av.F
end
section
namespace Go.Av.F
open Go Go.Av Go.Proofs Go.Proofs.Tryz
set_option linter.unusedSimpArgs false
set_option linter.unusedVariables false
set_option maxRecDepth 100000
theorem sealB_len (s : List UInt8) : (sealB s).length ≤ 70000 := by
  unfold sealB
  split
  · simp
  · have h1 := ddig_len (sumB s (1 + s.length % 997)) []
    have h2 := sumB_lt s (1 + s.length % 997) (by omega)
    simp at h1 ⊢
    omega
theorem makeB_len (bs : List BS) (x y : List UInt8) : (makeB bs x y).length ≤ 70000 := by
  unfold makeB
  split
  · exact sealB_len _
  · simp
def sentR (bs : List UInt8) (p : Int) (r : AV) (L' : List (Nat × Ob)) : Prop := ∃ (t : List UInt8) (q : Int), t.length ≤ 100000 ∧ p ≤ q ∧ q ≤ p + 10 ∧ r = .str t ∧ L' = [(1000, rdOb bs q)]
theorem bkG_S {b : List BS} (h : BkG b) (hl : b.length ≤ 100) : BkS b := ⟨by omega, fun x hx => ⟨(h x hx).1, by have := (h x hx).2.1; omega, by have := (h x hx).2.2; omega⟩⟩
theorem sentC (bs : List UInt8) (p : Int) (b : List BS) (hp : 0 ≤ p ∧ p < 900000000) (hb : bs.length ≤ 2000) (hg : BkG b) (hl : b.length ≤ 100) :
    ACall prog 49 [.ptr 1000 0 0, bk b] [(1000, rdOb bs p)] (sentR bs p) := by
  have hS := bkG_S hg hl
  have c1 := ssealC [115, 101, 110, 100] (by simp [maxLen])
  refine acv func49 [(3, [⟨0, [3], [], [], []⟩, ⟨1, [], [3], [], []⟩, ⟨2, [3], [3], [], []⟩, ⟨3, [], [3], [], []⟩, ⟨4, [], [3], [], []⟩, ⟨5, [3], [3], [], []⟩, ⟨6, [], [3], [], []⟩, ⟨7, [], [3], [], []⟩, ⟨8, [], [3], [], []⟩, ⟨9, [], [3], [], []⟩, ⟨10, [], [3], [], []⟩, ⟨11, [], [], [], []⟩, ⟨12, [], [], [], []⟩]), (7, [⟨0, [], [], [], []⟩, ⟨1, [], [], [], []⟩, ⟨2, [], [], [], []⟩, ⟨3, [], [], [], []⟩, ⟨7, [], [], [], []⟩, ⟨8, [], [], [], []⟩, ⟨9, [], [], [], []⟩, ⟨4, [], [], [], []⟩, ⟨5, [], [], [], []⟩, ⟨6, [], [], [], []⟩, ⟨10, [], [], [], []⟩, ⟨11, [], [], [], []⟩])] ntmps49 rfl rfl rfl ?_
  refine va_seq (va_of_ev _ ?_)
  simp -implicitDefEqProofs [bk]
  refine va_seq (va_of_ev _ ?_)
  simp -implicitDefEqProofs [bk]
  refine c1.call ?_
  simp -implicitDefEqProofs
  refine va_cut (X := Int × List UInt8) [0, 5] (fun x => ⟨mkT [(0, .ptr 1000 0 0), (5, .str x.2)], hpOf [(1000, rdOb bs x.1)], Us.of [1000, 1000]⟩) (fun x => p ≤ x.1 ∧ x.1 ≤ p + 1 ∧ x.2.length ≤ 70000) ?_ ?_
  · simp -implicitDefEqProofs
    by_cases hbl : b.length = 0
    · have hbe : b = [] := List.eq_nil_of_length_eq_zero hbl
      subst hbe
      simp -implicitDefEqProofs
      exact cutX_of (p, sealB [115, 101, 110, 100]) ⟨by simp only; omega, by simp only; omega, by simp only; exact sealB_len _⟩ [(1000, 1000)] (by simp [canonOk]) (by simp [canon, obOf, ren_rdOb])
    · have hbl' : 0 < b.length := by omega
      have hne : b ≠ [] := fun h => hbl (by simp [h])
      simp -implicitDefEqProofs [hbl', hne]
      refine callPick (p := p) (by omega) hb (by simp) fun k hk _ => ?_
      have hk := hk (by omega)
      obtain ⟨t, ht⟩ : ∃ t, b[k.toNat]? = some t := ⟨_, List.getElem?_eq_getElem (by omega)⟩
      have ht0 := (List.getElem?_eq_some_iff.1 ht).2
      have hkl : k.toNat < b.length := by omega
      have ht8 := (hg t (List.mem_of_getElem? ht)).1
      have c2 := smakeC b [] t.name hS
      simp -implicitDefEqProofs [hbl', hne, hk.1, hk.2, ht, ht0, hkl, row_len _ ht8]
      refine c2.call ?_
      simp -implicitDefEqProofs
      exact cutX_of (p + 1, makeB b [] t.name) ⟨by simp only; omega, by simp only; omega, by simp only; exact makeB_len _ _ _⟩ [(1000, 1000)] (by simp [canonOk]) (by simp [canon, obOf, ren_rdOb])
  rintro ⟨q, t⟩ ⟨h1, h2, h3⟩
  simp only at h1 h2 h3
  refine va_of_ev _ ?_
  simp -implicitDefEqProofs
  refine callPick (p := q) (by omega) hb (by simp) fun k hk _ => ?_
  have hk := hk (by omega)
  simp -implicitDefEqProofs
  refine ⟨fun hk0 => ?_, fun hk0 => ⟨fun hk1 => ?_, fun hk1 => ?_⟩⟩
  · have e1 := i64w ((t.length : Int) + 1) (by omega) (by omega)
    rw [e1]
    refine callPick (p := q + 1) (by omega) hb (by simp) fun j hj _ => ?_
    have hj := hj (by omega)
    simp -implicitDefEqProofs
    refine ⟨⟨by omega, by omega⟩, ?_⟩
    refine callOf (p := q + 1 + 1) [[48], [32], [61]] (by omega) hb (by simp) (by omega) (by simp [strOb, strRow]) (by simp) (by simp) (by simp) fun u hu => ?_
    have hul : u.length = 1 := by
      simp only [List.mem_cons, List.not_mem_nil, or_false] at hu
      rcases hu with rfl | rfl | rfl <;> rfl
    simp -implicitDefEqProofs [hul]
    exact ⟨by omega, by omega, [(1000, rdOb bs (q + 1 + 1 + 1))], by simp, _, q + 1 + 1 + 1, by simp [hul]; omega, by omega, by omega, rfl, rfl⟩
  · refine callOf (p := q + 1) [[115, 101, 110, 100, 32, 49, 61, 54, 49, 32, 48, 61, 54, 50], [115, 101, 110, 100, 32, 56, 61, 54, 49], [115, 101, 110, 100, 32, 49, 61, 54], [115, 101, 110, 116], [115, 101, 110, 100, 32, 49], [115, 101, 110, 100, 32, 32, 49, 61, 54, 49], [115, 101, 110, 100, 32, 48, 61], [115, 101, 110, 100, 32, 48, 49, 61, 54, 49], [115, 101, 110, 100, 32, 61, 54, 49]] (by omega) hb (by simp) (by omega) (by simp [strOb, strRow]) (by simp) (by simp) (by simp) fun u hu => ?_
    have hul : u.length ≤ 100 := by
      simp only [List.mem_cons, List.not_mem_nil, or_false] at hu
      rcases hu with rfl | rfl | rfl | rfl | rfl | rfl | rfl | rfl | rfl <;> simp
    simp -implicitDefEqProofs
    refine (ssealC u (by simp [maxLen]; omega)).call ?_
    simp -implicitDefEqProofs
    exact ⟨[(1000, rdOb bs (q + 1 + 1))], by simp, sealB u, q + 1 + 1, by have := sealB_len u; omega, by omega, by omega, rfl, rfl⟩
  · exact ⟨[(1000, rdOb bs (q + 1))], by simp, t, q + 1, by omega, by omega, by omega, rfl, rfl⟩
end Go.Av.F
end
section
namespace Go.Av
open Go Go.Proofs
variable {P : Program}
theorem ACall.frzL {f : Nat} {args : List AV} {L : List (Nat × Ob)} {R R' : AV → List (Nat × Ob) → Prop} (h : ACall P f args L R)
    (hr : ∀ r L', R r L' → R' r L' ∨ ∃ id o L2, (∀ i, hpOf L' i = hpOf ((id, o) :: L2) i) ∧ id ∉ L2.map (·.1) ∧ (∀ i, i ∈ L.map (·.1) → i ∈ L2.map (·.1)) ∧ clR o.els = true ∧ R' (Av.frz id o r) L2) : ACall P f args L R' := by
  intro w Z γ vs hv hh hg
  refine (h w Z γ vs hv hh hg).mono ?_
  rintro e w' ⟨v, r, L', Z', γ', h1, h2, h3, h4, h5, h6, h7, h8, h9⟩
  rcases hr r L' h2 with hk | ⟨id, o, L2, he, hid, hin, hcl, hR⟩
  · exact ⟨v, r, L', Z', γ', h1, hk, h3, h4, h5, h6, h7, h8, h9⟩
  have hido : hpOf L' id = some o := by rw [he]; simp
  obtain ⟨rg, hrg, hor⟩ := h4.obj id o hido
  have hup : ∀ {i x}, hpOf L2 i = some x → i ≠ id ∧ hpOf L' i = some x := fun h => by
    obtain ⟨a, b⟩ := hpOf_cons_ne (o := o) hid h
    exact ⟨a, by rw [he]; exact b⟩
  have hsm : ∀ i, i ∈ L2.map (·.1) → ∃ x, hpOf L2 i = some x := fun i hi => by
    cases hx : hpOf L2 i with
    | some x => exact ⟨x, rfl⟩
    | none => exact absurd hi (by
        clear hi hin hcl hR hup he hid
        induction L2 with
        | nil => simp
        | cons y L3 ih =>
          obtain ⟨a, b⟩ := y
          simp only [hpOf_cons] at hx
          split at hx
          · cases hx
          · rename_i hne
            simp only [List.map_cons, List.mem_cons, not_or]
            exact ⟨hne, ih hx⟩)
  refine ⟨v, Av.frz id o r, L2, fun p => Z' p ∨ rg.has p, γ', h1, hR, h3.frz hrg hor hcl, ⟨fun i x hx => ?_, fun i j o1 o2 r1 r2 hne g1 g2 => ?_, fun i x r' hx hr' p hp => ?_, fun p hp => ?_, h4.gl.world (fun _ h => .inl h) (fun _ _ => rfl)⟩, h5, fun p hp => .inl (h6 p hp), fun p hp => ?_, fun i x r' hx => ?_, h9⟩
  · obtain ⟨hi, hx'⟩ := hup hx
    obtain ⟨r', hr', hor'⟩ := h4.obj i x hx'
    refine ⟨r', hr', hor'.spot, hor'.sz, hor'.fit, hor'.len, hor'.live, fun e j he hj => ?_, hor'.pln⟩
    obtain ⟨u, hu, hru⟩ := hor'.cell e j he hj
    exact ⟨u, hu, hru.world (fun b hb => .inl hb) (fun p _ => rfl)⟩
  · exact h4.dis i j o1 o2 r1 r2 hne (hup g1).2 (hup g2).2
  · obtain ⟨hi, hx'⟩ := hup hx
    rintro (hz | hz)
    · exact h4.zon i x r' hx' hr' p hp hz
    · exact Rg.apart_has (h4.dis i id x o r' rg hi hx' hido hr' hrg) hp hz
  · rcases hp with hp | hp
    · exact h4.zlt p hp
    · obtain ⟨p1, p2, p3, p4⟩ := hp
      obtain ⟨⟨u, hu⟩, _⟩ := hor.live (p.off - rg.A.off) (by omega)
      have := World.block_lt_of_cell? w' _ hu
      simp only [at_block] at this
      omega
  · rcases hp with hp | hp
    · exact h7 p hp
    · rcases h8 id o rg hido hrg p hp with h | ⟨i, x, r', hx, hg', hp'⟩
      · exact .inr h
      · obtain ⟨y, hy⟩ := hsm i (hin i (List.mem_map.2 ⟨_, hpOf_mem hx, rfl⟩))
        obtain ⟨hi, hy'⟩ := hup hy
        have := h9 i x hx
        exact absurd hp (Rg.apart_has (h4.dis i id y o r' rg hi hy' hido (by rw [this]; exact hg') hrg) hp')
  · exact h8 i x r' (hup hx).2
end Go.Av
namespace Go.Av.F
open Go Go.Av Go.Proofs Go.Proofs.Tryz
set_option linter.unusedSimpArgs false
set_option linter.unusedVariables false
set_option maxRecDepth 100000
def plF (bs : List UInt8) (p n : Int) (r : AV) (L' : List (Nat × Ob)) : Prop := ∃ (q : Int) (b : List BS), p ≤ q ∧ q ≤ p + 20 * n ∧ BkG b ∧ b.length ≤ n ∧ r = bk b ∧ L' = [(1000, rdOb bs q)]
theorem playedF (bs : List UInt8) (p n : Int) (hp : 0 ≤ p ∧ p < 800000000) (hn : 0 ≤ n ∧ n ≤ 1000) (hb : bs.length ≤ 2000) :
    ACall prog 50 [.ptr 1000 0 0, .int .i64 n] [(1000, rdOb bs p)] (plF bs p n) := by
  refine ACall.imp (R := fun r L' => (r = .agg [.nils] ∧ plF bs p n (bk []) L') ∨ plF bs p n r L') ((playedC bs p n hp hn hb).frzL ?_) ?_
  · rintro r L' ⟨q, b, h1, h2, h3, h4, ⟨rfl, rfl, rfl⟩ | ⟨rfl, rfl⟩⟩
    · exact .inl (.inl ⟨rfl, q, [], h1, h2, h3, h4, rfl, rfl⟩)
    · refine .inr ⟨901, bkOb b, [(1000, rdOb bs q)], fun i => ?_, by simp, by simp, by simp [bkOb, clR], .inr ⟨q, b, h1, h2, h3, h4, ?_, rfl⟩⟩
      · by_cases h : i = 1000
        · subst h; simp
        · simp [h]
      · simp [bk, bkOb]
  · rintro r L' (⟨rfl, h⟩ | h)
    · exact ⟨_, impA_agg1 (impA_nils 11), h⟩
    · exact ⟨_, impA_refl _, h⟩
theorem callPickI {id : Nat} {bs : List UInt8} {p n : Int} (hp : 0 ≤ p ∧ p < 1000000000) (hb : bs.length ≤ 2000) {s : S} {dst : Option Nat} {K : S → Prop} (hr : s.h id = some (rdOb bs p))
    (hK : ∀ k : Int, (1 ≤ n → 0 ≤ k ∧ k < n) → (n < 1 → k = 0) → K ⟨putA s.t dst (.int .i64 k), upd s.h id (some (rdOb bs (p + 1))), s.u⟩) : callA Go.Proofs.Tryz.prog 32 [.ptr id 0 0, .int .i64 n] dst s K := by
  refine callA_wh [(1000, .whole id)] (by kernel_rfl) (pickC bs p n hp hb) (by simp) (by simp) (by simp [hr]) (by simp) (by simp [hr]) ?_
  rintro r L' ⟨k, rfl, h1, h2, rfl⟩
  refine ⟨[], ⟨by simp, by simp, by simp, by simp, by simp⟩, ?_⟩
  have e : (afterS s [(1000, .whole id)] [] dst (.int .i64 k) [(1000, rdOb bs (p + 1))]) = ⟨putA s.t dst (.int .i64 k), upd s.h id (some (rdOb bs (p + 1))), s.u⟩ := by
    simp only [afterS]
    congr 1
    · funext i; simp; split <;> simp_all
    · exact Us.app_nil _
  rw [e]; exact hK k h1 h2
def sdSt (bs : List UInt8) (x : Int × List BS) : S :=
  ⟨mkT [(2, .ptr 2 0 0), (3, .str []), (4, .str []), (5, .ptr 10 0 0), (6, .ptr 6 0 0)], hpOf [(2, ⟨1, [[.nils]]⟩), (6, ⟨1, [[.lst 11 (x.2.map BS.row)]]⟩), (10, rdOb bs x.1)], Us.of [2, 6, 10]⟩
def sdSt2 (bs : List UInt8) (b : List BS) (x : Int × List UInt8) : S :=
  ⟨mkT [(2, .ptr 2 0 0), (3, .str []), (4, .str []), (5, .ptr 10 0 0), (6, .ptr 6 0 0), (7, .str x.2)], hpOf [(2, ⟨1, [[.nils]]⟩), (6, ⟨1, [[.lst 11 (b.map BS.row)]]⟩), (10, rdOb bs x.1)], Us.of [2, 6, 10]⟩
def drawSR (r : AV) (L' : List (Nat × Ob)) : Prop := ∃ (b : List BS) (n t : List UInt8), BkG b ∧ b.length ≤ 100 ∧ n.length ≤ 24 ∧ t.length ≤ 100000 ∧ r = .tup [bk b, .str n, .str t] ∧ L' = []
theorem drawSApplyC (code : List UInt8) (hl : code.length < 4611686018427387904) : ACall prog 18 [.lst 1 (code.map u8row)] [] drawSR := by
  refine acv func18 [(5, [⟨0, [], [], [], []⟩, ⟨1, [6], [], [], []⟩, ⟨2, [], [6], [], []⟩, ⟨3, [], [6], [], []⟩, ⟨4, [6], [6], [], []⟩, ⟨5, [], [6], [], []⟩, ⟨6, [], [6], [], []⟩, ⟨7, [], [], [], []⟩, ⟨8, [], [], [], []⟩, ⟨9, [], [], [], []⟩, ⟨10, [], [], [], []⟩]), (6, [⟨0, [6], [], [], []⟩, ⟨1, [], [6], [], []⟩, ⟨2, [], [6], [], []⟩, ⟨3, [], [6], [], []⟩, ⟨4, [], [6], [], []⟩, ⟨5, [], [6], [], []⟩, ⟨6, [], [], [], []⟩, ⟨7, [], [], [], []⟩, ⟨8, [], [], [], []⟩])] ntmps18 rfl rfl rfl ?_
  have hb : (code.take 2000).length ≤ 2000 := by simp; omega
  refine va_seq (va_of_ev _ ?_)
  simp -implicitDefEqProofs
  refine va_seq (va_of_ev _ ?_)
  simp -implicitDefEqProofs
  refine callA_wh [] (by kernel_rfl) (openC code hl) (by simp) (by simp) (by simp) (by simp) (by simp) ?_
  rintro r L' ⟨rfl, rfl⟩
  refine ⟨[(10, 10)], ⟨by simp, by simp, by simp, by simp, by simp⟩, ?_⟩
  generalize code.take 2000 = bs at hb
  simp only [afterS]
  simp -implicitDefEqProofs
  refine va_cutW (X := Int × List BS) (sdSt bs) (fun x => 0 ≤ x.1 ∧ x.1 ≤ 1000 ∧ BkG x.2 ∧ x.2.length ≤ 100) ?_ ?_
  · simp -implicitDefEqProofs
    refine callA_wh [(1000, .whole 10)] (by kernel_rfl) (bookC bs 0 (by omega) hb) (by simp) (by simp) (by simp) (by simp) (by simp) ?_
    rintro r L' ⟨q, b, h1, h2, h3, h4, ⟨rfl, rfl, rfl⟩ | ⟨id, hid, rfl, rfl⟩⟩
    · refine ⟨[], ⟨by simp, by simp, by simp, by simp, by simp⟩, ?_⟩
      simp only [afterS]
      simp -implicitDefEqProofs
      exact cutW_of (q, []) ⟨by simp only; omega, by simp only; omega, h3, h4⟩ ((sw_imp1 6 (a := .nils) (b := .lst 11 []) (by simp) (impA_nils 11)).trans (sw_can [2, 3, 4, 5, 6] [(2, 2), (6, 6), (10, 10)] (by simp [canonOk]) (by simp [canon, obOf, sdSt, BO.row])))
    · rcases hid with rfl | rfl
      · refine ⟨[(69, 901)], ⟨by simp, by simp, by simp, by simp, by simp⟩, ?_⟩
        simp only [afterS]
        simp -implicitDefEqProofs
        exact cutW_of (q, b) ⟨by simp only; omega, by simp only; omega, h3, h4⟩ (sw_fr 901 (o := bkOb b) (by simp [bkOb]) (by simp) (by simp) (by simp) [2, 3, 4, 5, 6] [(2, 2), (6, 6), (10, 10)] (by simp [canonOk]) (by simp [canon, obOf, sdSt, BO.row, bkOb, rdOb]))
      · refine ⟨[(901, 901)], ⟨by simp, by simp, by simp, by simp, by simp⟩, ?_⟩
        simp only [afterS]
        simp -implicitDefEqProofs
        exact cutW_of (q, b) ⟨by simp only; omega, by simp only; omega, h3, h4⟩ (sw_fr 901 (o := bkOb b) (by simp [bkOb]) (by simp) (by simp) (by simp) [2, 3, 4, 5, 6] [(2, 2), (6, 6), (10, 10)] (by simp [canonOk]) (by simp [canon, obOf, sdSt, BO.row, bkOb, rdOb]))
  rintro ⟨q, b⟩ ⟨h1, h2, h3, h4⟩
  simp only at h1 h2 h3 h4
  refine va_seq (va_of_ev _ ?_)
  simp -implicitDefEqProofs [sdSt]
  refine callA_wh [(1000, .whole 10)] (by kernel_rfl) (nameC bs q (by omega) hb) (by simp) (by simp) (by simp) (by simp) (by simp) ?_
  rintro r L' ⟨n, hn, rfl, rfl⟩
  have hn : n.length ≤ 24 := by
    simp only [names, List.mem_cons, List.not_mem_nil, or_false] at hn
    rcases hn with rfl | rfl | rfl | rfl | rfl | rfl | rfl | rfl <;> simp
  refine ⟨[], ⟨by simp, by simp, by simp, by simp, by simp⟩, ?_⟩
  simp only [afterS]
  simp -implicitDefEqProofs
  refine va_cut (X := Int × List UInt8) [2, 3, 4, 5, 6, 7] (sdSt2 bs b) (fun x => 0 ≤ x.1 ∧ x.1 ≤ 1010 ∧ x.2.length ≤ 24) ?_ ?_
  · simp -implicitDefEqProofs
    by_cases hbl : b.length = 0
    · have hbe : b = [] := List.eq_nil_of_length_eq_zero hbl
      subst hbe
      simp -implicitDefEqProofs
      exact cutX_of (q + 1, n) ⟨by simp only; omega, by simp only; omega, hn⟩ [(2, 2), (6, 6), (10, 10)] (by simp [canonOk]) (by simp [canon, obOf, ren_rdOb, sdSt2])
    · have hbl' : 0 < b.length := by omega
      have hne : b ≠ [] := fun h => hbl (by simp [h])
      simp -implicitDefEqProofs [hbl', hne]
      refine callPickI (p := q + 1) (by omega) hb (by simp) fun k hk _ => ?_
      have hk := hk (by omega)
      simp -implicitDefEqProofs
      refine ⟨fun hk0 => ?_, fun hk0 => ?_⟩
      · refine callPickI (p := q + 1 + 1) (by omega) hb (by simp) fun j hj _ => ?_
        have hj := hj (by omega)
        obtain ⟨t, ht⟩ : ∃ t, b[j.toNat]? = some t := ⟨_, List.getElem?_eq_getElem (by omega)⟩
        have ht0 := (List.getElem?_eq_some_iff.1 ht).2
        have htl := (h3 t (List.mem_of_getElem? ht))
        simp -implicitDefEqProofs [hj, ht, ht0, row_len _ htl.1]
        exact cutX_of (q + 1 + 1 + 1, t.name) ⟨by simp only; omega, by simp only; omega, htl.2.1⟩ [(2, 2), (6, 6), (10, 10)] (by simp [canonOk]) (by simp [canon, obOf, ren_rdOb, sdSt2])
      · exact cutX_of (q + 1 + 1, n) ⟨by simp only; omega, by simp only; omega, hn⟩ [(2, 2), (6, 6), (10, 10)] (by simp [canonOk]) (by simp [canon, obOf, ren_rdOb, sdSt2])
  rintro ⟨q', n'⟩ ⟨g1, g2, g3⟩
  simp only at g1 g2 g3
  refine va_of_ev _ ?_
  simp -implicitDefEqProofs [sdSt2]
  refine callA_wh [(1000, .whole 10)] (by kernel_rfl) (playedF bs q' 14 (by omega) (by omega) hb) (by simp) (by simp) (by simp) (by simp) (by simp) ?_
  rintro r L' ⟨u, c, k1, k2, k3, k4, rfl, rfl⟩
  refine ⟨[], ⟨by simp, by simp, by simp, by simp, by simp⟩, ?_⟩
  simp only [afterS]
  simp -implicitDefEqProofs [bk]
  refine callA_wh [(1000, .whole 10)] (by kernel_rfl) (sentC bs u c (by omega) hb k3 (by omega)) (by simp [bk]) (by simp) (by simp) (by simp) (by simp) ?_
  rintro r L' ⟨t, w, m1, m2, m3, rfl, rfl⟩
  refine ⟨[], ⟨by simp, by simp, by simp, by simp, by simp⟩, ?_⟩
  simp only [afterS]
  simp -implicitDefEqProofs
  exact ⟨[], by simp, b, n', t, h3, h4, g3, m1, rfl, rfl⟩
end Go.Av.F
end
section
namespace Go.Av.F
open Go Go.Av Go.Proofs Go.Proofs.Tryz
set_option linter.unusedSimpArgs false
set_option linter.unusedVariables false
set_option maxRecDepth 100000
def setTx (bl : List (List UInt8)) (o : BO) : List (List UInt8) := bl.set o.i.toNat o.text
theorem set_getSelf {α : Type} {l : List α} {k : Nat} {t : α} (h : l[k]? = some t) : l.set k t = l := by
  obtain ⟨h1, rfl⟩ := List.getElem?_eq_some_iff.1 h
  simp
theorem fold_setBl (k : Nat) : ∀ (l : List BO) (bs : List BS) (t : BS), bs[k]? = some t → l.foldl (setBl k) bs = bs.set k { t with bl := l.foldl setTx t.bl }
  | [], bs, t, h => by
    exact (set_getSelf h).symm
  | o :: l, bs, t, h => by
    obtain ⟨h1, h2⟩ := List.getElem?_eq_some_iff.1 h
    rw [List.foldl_cons, fold_setBl k l (setBl k bs o) { t with bl := setTx t.bl o } (by unfold setBl; rw [h]; simp [setTx, h1])]
    unfold setBl
    rw [h]
    simp
def lastTx (l : List BO) (j : Nat) (x : List UInt8) : List UInt8 := l.foldl (fun a o => if o.i.toNat = j then o.text else a) x
theorem fold_tx : ∀ (l : List BO) (bl : List (List UInt8)) (j : Nat), (l.foldl setTx bl)[j]? = bl[j]?.map (lastTx l j)
  | [], bl, j => by simp only [List.foldl_nil]; cases bl[j]? <;> simp [lastTx]
  | o :: l, bl, j => by
    rw [List.foldl_cons, fold_tx l, setTx, List.getElem?_set]
    split
    · rename_i h
      split
      · rename_i h2
        rw [List.getElem?_eq_getElem (by omega)]
        simp [lastTx, h]
      · rename_i h2
        rw [List.getElem?_eq_none (by omega)]
        simp
    · rename_i h
      cases bl[j]? <;> simp [lastTx, h]
theorem lastTx_or : ∀ (l : List BO) (j : Nat), (∃ c, ∀ x, lastTx l j x = c) ∨ ∀ x, lastTx l j x = x
  | [], j => .inr fun x => rfl
  | o :: l, j => by
    rcases lastTx_or l j with ⟨c, h⟩ | h
    · exact .inl ⟨c, fun x => by unfold lastTx at *; simp only [List.foldl_cons]; exact h _⟩
    · by_cases ho : o.i.toNat = j
      · exact .inl ⟨o.text, fun x => by unfold lastTx at *; simp only [List.foldl_cons, ho, if_true]; exact h _⟩
      · exact .inr fun x => by unfold lastTx at *; simp only [List.foldl_cons, ho, if_false]; exact h _
theorem fold_tx2 (l : List BO) (bl : List (List UInt8)) : l.foldl setTx (l.foldl setTx bl) = l.foldl setTx bl := by
  refine List.ext_getElem? fun j => ?_
  rw [fold_tx l (l.foldl setTx bl), fold_tx]
  cases bl[j]? with
  | none => rfl
  | some x =>
    simp only [Option.map_some, Option.some.injEq]
    rcases lastTx_or l j with ⟨c, h⟩ | h <;> simp [h]
theorem fold_txle : ∀ (l : List BO) (bl : List (List UInt8)), (∀ o ∈ l, o.text.length ≤ 24) → (∀ x ∈ bl, x.length ≤ 24) → ∀ x ∈ l.foldl setTx bl, x.length ≤ 24
  | [], bl, h, hb => hb
  | o :: l, bl, h, hb => by
    rw [List.foldl_cons]
    refine fold_txle l _ (fun o ho => h o (by simp [ho])) fun x hx => ?_
    rcases List.mem_or_eq_of_mem_set hx with hx | rfl
    · exact hb x hx
    · exact h o (by simp)
theorem applyB_or {bs : List BS} (name text : List UInt8) (hok : bookOkB bs = true) :
    ((applyB bs name text).1 = bs ∧ (applyB bs name text).2 ≠ 0) ∨
    ∃ t bl, bs[atP bs name]? = some t ∧ t.name = name ∧ applyB bs name text = (bs.set (atP bs name) { t with bl := bl }, 0) ∧ bl.length = t.bl.length ∧
      bookOkB (bs.set (atP bs name) { t with bl := bl }) = true ∧
      applyB (bs.set (atP bs name) { t with bl := bl }) name text = (bs.set (atP bs name) { t with bl := bl }, 0) := by
  have hO := okB_iff.1 hok
  cases h1 : (sreadB text name).2 with
  | false => exact .inl (by unfold applyB; simp [hok, h1])
  | true =>
    cases h2 : atB bs name with
    | false => exact .inl (by unfold applyB; simp [hok, h1, h2])
    | true =>
      obtain ⟨t, hk, htn⟩ := atB_some h2
      by_cases hkd : t.kind = 1
      · have hput := sread_put text name
        generalize hl : (sreadB text name).1 = l at hput
        have hlen : ∀ (l : List BO) (bl : List (List UInt8)), (l.foldl setTx bl).length = bl.length := fun l => by
          induction l with
          | nil => intro bl; rfl
          | cons o l ih => intro bl; rw [List.foldl_cons, ih, setTx, List.length_set]
        have hF := (hO.2.2 t (List.mem_of_getElem? hk)).1
        have hset := (okB_iff (bs := bs.set (atP bs name) { t with bl := l.foldl setTx t.bl })).2 (ok_set hO hk (fold_txle l t.bl (fun o ho => (hput o ho).2.2.2.2.2) hF.2.2.2))
        have hkl := (List.getElem?_eq_some_iff.1 hk).1
        have hmap : (bs.set (atP bs name) { t with bl := l.foldl setTx t.bl }).map BS.name = bs.map BS.name := by
          rw [List.map_set]
          refine List.ext_getElem? fun i => ?_
          rw [List.getElem?_set]
          split
          · rename_i h; subst h
            simp [hkl, (List.getElem?_eq_some_iff.1 hk).2]
          · rfl
        refine .inr ⟨t, l.foldl setTx t.bl, hk, htn, ?_, hlen l _, hset, ?_⟩
        · unfold applyB
          rw [fold_setBl (atP bs name) _ bs t hk]
          simp [hok, h1, h2, hk, hkd, hl]
        · have e1 : atB (bs.set (atP bs name) { t with bl := l.foldl setTx t.bl }) name = true := by rw [atB_map hmap, h2]
          have e2 : atP (bs.set (atP bs name) { t with bl := l.foldl setTx t.bl }) name = atP bs name := atP_map hmap name
          have e3 : (bs.set (atP bs name) { t with bl := l.foldl setTx t.bl })[atP bs name]? = some { t with bl := l.foldl setTx t.bl } := by simp [hkl]
          obtain ⟨u, hu⟩ : ∃ u : BS, { t with bl := l.foldl setTx t.bl } = u := ⟨_, rfl⟩
          have hu1 : u.kind = 1 := by rw [← hu]; exact hkd
          have hu2 : { u with bl := l.foldl setTx u.bl } = u := by rw [← hu]; simp only [fold_tx2]
          rw [hu] at hset e1 e2 e3 ⊢
          generalize hcs : bs.set (atP bs name) u = cs at *
          have hf : l.foldl (setBl (atP bs name)) cs = cs := by rw [fold_setBl (atP bs name) _ _ _ e3, hu2]; exact set_getSelf e3
          unfold applyB
          rw [e2]
          simp [hset, h1, e1, e3, hu1, hl, hf]
      · exact .inl (by unfold applyB; simp [hok, h1, h2, hk, hkd])
theorem applyB_bad {bs : List BS} (name text : List UInt8) (hok : bookOkB bs = false) : (applyB bs name text).1 = [] := by unfold applyB; simp [hok]
end Go.Av.F
end
section
namespace Go.Av.F
open Go Go.Av Go.Proofs Go.Proofs.Tryz
set_option linter.unusedSimpArgs false
set_option linter.unusedVariables false
set_option maxRecDepth 100000
def drawSV (r : AV) : Prop := ∃ (b : List BS) (n t : List UInt8), BkG b ∧ b.length ≤ 100 ∧ n.length ≤ 24 ∧ t.length ≤ 100000 ∧ r = .tup [bk b, .str n, .str t]
theorem drawSVC (code : List UInt8) (hl : code.length < 4611686018427387904) : ACall prog 18 [.lst 1 (code.map u8row)] [] (fun r L' => drawSV r ∧ clA r = true ∧ L' = []) :=
  (drawSApplyC code hl).mono fun r L' ⟨b, n, t, h1, h2, h3, h4, h5, h6⟩ => ⟨⟨b, n, t, h1, h2, h3, h4, h5⟩, by rw [h5]; simp [bk, clA, clL], h6⟩
theorem lawSendApplyT (code : List UInt8) : CV prog 5 [.lst 1 (code.map u8row)] (.bool true) := by
  refine cvx func5 [(16, [⟨0, [], [], [], []⟩, ⟨1, [3], [], [], []⟩, ⟨2, [], [3], [], []⟩, ⟨3, [], [], [], []⟩, ⟨4, [], [], [], []⟩, ⟨5, [], [], [], []⟩, ⟨6, [], [3], [], []⟩, ⟨7, [], [], [], []⟩, ⟨8, [], [], [], []⟩, ⟨9, [], [], [], []⟩, ⟨10, [6], [], [], []⟩, ⟨11, [], [6], [], []⟩, ⟨12, [], [], [], []⟩, ⟨13, [], [], [], []⟩, ⟨14, [], [6], [], []⟩, ⟨15, [3], [6], [], []⟩, ⟨16, [], [6, 3], [], []⟩, ⟨17, [], [6], [], []⟩, ⟨18, [], [6], [], []⟩, ⟨19, [], [], [], []⟩, ⟨20, [], [], [], []⟩])] ntmps5 rfl rfl rfl ?_
  simp -implicitDefEqProofs
  intro h0
  refine callA_ex (by kernel_rfl) (drawSVC code (by omega)) (by simp) ?_
  rintro r ⟨b, n, t, hb, hbl, hn, ht, rfl⟩
  have hS := bkG_S hb hbl
  have hB : ∀ x ∈ b, x.bl.length = 8 := fun x h => (hb x h).1
  have c1 := iapplyC b n t hS (by omega)
  have c2 := sapplyC b n t hS (by omega)
  have hX8 := applyB_8 b n t hB
  have hXl := applyB_len b n t
  have c3 := cv_of (isameC (applyB b n t).1 (applyB b n t).1 (by omega) (by omega) hX8 hX8) (hca := by simp [bk])
  have c4 := cv_of (specOkC b hb (by omega)) (hca := by simp [bk])
  have c5 := cv_of (isameC b b (by omega) (by omega) hB hB) (hca := by simp [bk])
  simp -implicitDefEqProofs [bk]
  refine c1.call ?_
  simp -implicitDefEqProofs [bk]
  refine c2.call ?_
  simp -implicitDefEqProofs [bk]
  refine c3.call ?_
  simp -implicitDefEqProofs [bk]
  refine c4.call ?_
  cases hok : bookOkB b with
  | false =>
    have := applyB_bad n t hok
    simp -implicitDefEqProofs [this]
  | true =>
    simp -implicitDefEqProofs [bk]
    rcases applyB_or n t hok with ⟨e1, e2⟩ | ⟨u, bl, g1, g2, g3, g4, g5, g6⟩
    · have e2' : ¬ (applyB b n t).2 = 0 := e2
      simp -implicitDefEqProofs [e1, e2']
      refine c5.call ?_
      simp -implicitDefEqProofs
    · obtain ⟨y, hy⟩ : ∃ y, b.set (atP b n) { u with bl := bl } = y := ⟨_, rfl⟩
      rw [hy] at g3 g5 g6
      have hyl : y.length = b.length := by rw [← hy]; simp
      have huG := hb u (List.mem_of_getElem? g1)
      have hyG : BkG y := fun x hx => by
        rw [← hy] at hx
        rcases List.mem_or_eq_of_mem_set hx with hx | rfl
        · exact hb x hx
        · exact ⟨by simp only [g4]; exact huG.1, huG.2⟩
      have hyS := bkG_S hyG (by omega)
      have c6 := iapplyC y n t hyS (by omega)
      have c7 := cv_of (isameC y y (by omega) (by omega) (fun x h => (hyG x h).1) (fun x h => (hyG x h).1)) (hca := by simp [bk])
      have c8 := cv_of (implOkC y hyG (by omega)) (hca := by simp [bk])
      rw [g6] at c6
      rw [g5] at c8
      have hne : ∀ (i : Nat) (s : BS), b[i]? = some s → s.name ≠ n → y[i]? = some s := fun i s hs hsn => by
        rw [← hy, List.getElem?_set]
        split
        · rename_i h; subst h
          rw [g1] at hs; injection hs with hs; subst hs
          exact absurd g2 hsn
        · exact hs
      simp -implicitDefEqProofs [g3]
      refine c6.call ?_
      simp -implicitDefEqProofs [bk]
      refine ev_lp (X := Nat) [2, 3, 4, 6, 10, 11, 12] [(3, 3), (6, 6), (10, 10)] (fun i => [(12, .int .i64 i)]) (fun i => []) (fun i => b.length - i) (fun i => i ≤ b.length) 0 (by simp) ?_
      intro i hi
      by_cases h1 : i < b.length
      · have h1' : (i : Int) < b.length := by omega
        obtain ⟨s, e0⟩ : ∃ s, b[i] = s := ⟨_, rfl⟩
        have e1 : b[i]? = some s := by rw [← e0]; exact List.getElem?_eq_getElem h1
        have hs8 := hB s (List.mem_of_getElem? e1)
        have e3 := i64w ((i : Int) + 1) (by omega) (by omega)
        have hiy : i < y.length := by omega
        obtain ⟨r, f0⟩ : ∃ r, y[i] = r := ⟨_, rfl⟩
        have f1 : y[i]? = some r := by rw [← f0]; exact List.getElem?_eq_getElem hiy
        have hr8 := (hyG r (List.mem_of_getElem? f1)).1
        simp -implicitDefEqProofs [obOf, hyl, h1', h1, e0, e1, hiy, f0, f1, row_len _ hs8, row_len _ hr8, row_take _ hs8, row_take _ hr8, eqTy35, shL_row _ hs8, shL_row _ hr8, beqC_row _ _ hr8 hs8, e3]
        have hy1 : s.name ≠ n → r = s := fun h => by
          have := hne i s e1 h
          rw [f1] at this; injection this
        exact ⟨fun h => ⟨hy1 h, fun _ => nx (i + 1) [(3, 3), (6, 6), (10, 10)] (by omega) (h4 := by simp [obOf])⟩, fun h => nx (i + 1) [(3, 3), (6, 6), (10, 10)] (by omega) (h4 := by simp [obOf])⟩
      · have hie : i = b.length := by omega
        subst hie
        simp -implicitDefEqProofs [obOf]
        refine c7.call ?_
        simp -implicitDefEqProofs
        refine c8.call ?_
        simp -implicitDefEqProofs
end Go.Av.F
end
section
namespace Go.Av
open Go.RowKit Go.ChangeShapes Go.WideShapes Go.ChangeAt
set_option linter.unusedSimpArgs false
set_option linter.unusedVariables false
variable {P : Program} {W : World}
theorem laid_at {n : String} {d : DataW Unit} : ∀ {laid : List (String × DataW Unit)} {ps : List MemPlace}, DataW.LaidVars P W laid ps → (n, d) ∈ laid →
    ∃ g t cs fuel p, P.globalNamed n = some g ∧ (P.globals[g]?).map (·.type) = some t ∧ W.var? P n = some cs ∧ DataW.trod (fun _ => ()) P W 0 (fun _ => true) false fuel t cs.toList = some (d, p)
  | [], ps, _, hm => by simp at hm
  | (m, e) :: r, ps, h, hm => by
    obtain ⟨g, t, cs, fuel, p, q, h1, h2, h3, h4, h5, _⟩ := h
    rcases List.mem_cons.1 hm with hm | hm
    · injection hm with e1 e2
      subst e1; subst e2
      exact ⟨g, t, cs, fuel, p, h1, h2, h3, h4⟩
    · exact laid_at h5 hm
theorem var_gl {n : String} {g : Nat} {cs : Array Value} (hg : P.globalNamed n = some g) (hv : W.var? P n = some cs) (avs : List AV) (hl : avs.length = cs.size) (hne : avs ≠ []) (hr : ∀ j, j < avs.length → AVRel W (Old W) noG (avs.getD j .top) (cs.getD j undef)) :
    AVRel W (Old W) noG (.elm avs) (.pointer (some ⟨g, 0, none⟩)) ∧ Old W ⟨g, avs.length, none⟩ ∧ W.cell? ⟨g, avs.length, none⟩ = none := by
  have hc := fun i => World.var?_cell hg hv i
  have h0 : 0 < cs.size := by rw [← hl]; exact List.length_pos_iff.2 hne
  have hcell : ∀ j, j < avs.length → W.cell? ⟨g, j, none⟩ = some (cs.getD j undef) := fun j hj => by
    rw [hc, Array.getElem?_eq_getElem (by omega)]
    simp [Array.getD, show j < cs.size by omega]
  have hb : g < W.heap.size := World.block_lt_of_cell? W _ (hcell 0 (by omega))
  refine ⟨.elm _ avs _ (fun j => cs.getD j undef) rfl (fun j hj => hb) (fun j hj => ?_) hr, hb, ?_⟩
  · simpa [Addr.at] using hcell j hj
  · rw [hc, Array.getElem?_eq_none (by omega)]
theorem laid_tab {laid : List (String × DataW Unit)} (h : laidMet P laid W) {n : String} {g : Nat} {zs : List Int} {k : IntKind} {t e : TypeId} {m : Nat} (hm : (n, (Lib.tabData k zs : DataW Unit)) ∈ laid) (hg : P.globalNamed n = some g) (hty : (P.globals[g]?).map (·.type) = some t)
    (ht : P.underlying t = some (.array m e)) (he : P.underlying e = some (.int k)) (hce : P.cellsOf e = 1) (hct : P.cellsOf t = m) (hne : zs ≠ []) :
    AVRel W (Old W) noG (.elm (zs.map (AV.int k))) (.pointer (some ⟨g, 0, none⟩)) ∧ Old W ⟨g, (zs.map (AV.int k)).length, none⟩ ∧ W.cell? ⟨g, (zs.map (AV.int k)).length, none⟩ = none := by
  obtain ⟨ps, hL, _⟩ := h
  obtain ⟨g', t', cs, fuel, p, h1, h2, h3, h4⟩ := laid_at hL hm
  obtain rfl := Option.some.inj (hg.symm.trans h1)
  obtain rfl := Option.some.inj (hty.symm.trans h2)
  have hcs := Lib.cells_of_tab ht he hce hct h4
  have hcs2 : cs = (zs.map fun z => Value.int k z).toArray := by rw [← hcs]
  subst hcs2
  refine var_gl hg h3 _ (by simp) (by simpa using hne) fun j hj => ?_
  simp only [List.length_map] at hj
  simp [List.getD, Array.getD, hj]
  exact .int _ _ _
theorem laid_ifc {laid : List (String × DataW Unit)} (h : laidMet P laid W) {n s : String} {d : DataW Unit} {g : Nat} {t : TypeId} {m : Array (String × TypeId)} (hm : (n, (DataW.iface s d : DataW Unit)) ∈ laid) (hg : P.globalNamed n = some g) (hty : (P.globals[g]?).map (·.type) = some t)
    (ht : P.underlying t = some (.interface m)) : AVRel W (Old W) noG (.elm [.ifc]) (.pointer (some ⟨g, 0, none⟩)) ∧ Old W ⟨g, [AV.ifc].length, none⟩ ∧ W.cell? ⟨g, [AV.ifc].length, none⟩ = none := by
  obtain ⟨ps, hL, _⟩ := h
  obtain ⟨g', t', cs, fuel, p, h1, h2, h3, h4⟩ := laid_at hL hm
  obtain rfl := Option.some.inj (hg.symm.trans h1)
  obtain rfl := Option.some.inj (hty.symm.trans h2)
  cases fuel with
  | zero => simp [DataW.trod] at h4
  | succ fuel =>
    unfold DataW.trod at h4
    simp only [ht] at h4
    obtain ⟨l⟩ := cs
    simp only at h4
    match l, h4, h3 with
    | [.iface u v], h4, h3 =>
      refine var_gl hg h3 _ rfl (by simp) fun j hj => ?_
      obtain rfl : j = 0 := by simpa using hj
      exact .ifc _ _ _
    | [.nilIface], h4, h3 => simp at h4
    | [], h4, h3 => simp at h4
    | .int _ _ :: _, h4, h3 => simp at h4
    | _ :: _ :: _, h4, h3 => simp at h4
end Go.Av
end
section
namespace Go.Proofs.YtffammdakbbanaaGreatDoor
open Go.ChangeShapes Go.WideShapes Go.ChangeAt Go.RowKit
set_option linter.unusedVariables false
theorem fact_own : ownKnob Tryz.prog.godebug = none := by kernel_rfl
theorem fact_laidOut : laidOutB Tryz.prog = true := by kernel_rfl
theorem fact_mapsRowed : mapsRowed Tryz.prog = true := by kernel_rfl
theorem fact_heard : Tryz.prog.stopsHeard = true := by kernel_rfl
theorem fact_mayEnter : Tryz.prog.mayEnter = true := by kernel_rfl
theorem fact_main : Tryz.pinned.checked.prog.mainIs = some (true, "ad0d94105eb6e27317b1ac9113807a56e7b4c351d1e11cd5cd834b34e0abc181".toList) := by kernel_rfl
theorem fact_looks : true = Tryz.prog.looks [] := by kernel_rfl
end Go.Proofs.YtffammdakbbanaaGreatDoor
end
