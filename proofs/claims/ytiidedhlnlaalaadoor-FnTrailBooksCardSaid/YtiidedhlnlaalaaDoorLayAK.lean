/- Lemmas for the proof, no statement of the seat: AvI14, AvI15, AvP1, AvZ10, AvZ11, AvZ12, AvZ13, AvP2, AvP3, AvLaw0, AvRow, AvFacts, AvLaw5; no conditions. -/
import Derived.Test.YtiidedhlnlaalaaDoorLayAJ
import Derived.Below
import Derived.WalkKit
import Derived.Test.YtiidedhlnlaalaaDoorRows
import Derived.Test.YtiidedhlnlaalaaDoorCards
import Derived.ProofKit
import Derived.OpenShut
import Derived.LaidMore
import Derived.Lay
import Derived.SevenTiedAt
import Derived.Stop.Joined
section
namespace Go.Av.F
open Go Go.Av
set_option linter.unusedSimpArgs false
set_option linter.unusedVariables false
set_option maxRecDepth 100000
attribute [local simp] tt3 tt4 tt9 tt5 tt22 tt25 tt23 tt35 tt33 tt27 tt42

/-! ### What a call keeps of a book -/
def Wf (bs : List BS) : Prop := (∀ b ∈ bs, b.bl.length = 8) ∧ ∀ b ∈ bs, b.name.length < 1000000

theorem newB_mem {bs : List BS} {s b : BS} (h : b ∈ (newB bs s).1) : b ∈ bs ∨ b = s := by
  unfold newB at h
  split at h
  · exact .inl h
  · split at h
    · exact .inl h
    · split at h
      · exact .inl h
      · simp only [List.mem_append, List.mem_cons] at h
        rcases h with h | h | h
        · exact .inl (List.mem_of_mem_take h)
        · exact .inr h
        · exact .inl (List.mem_of_mem_drop h)
theorem newB_len (bs : List BS) (s : BS) : (newB bs s).1.length ≤ bs.length + 1 := by
  unfold newB
  split
  · simp
  · split
    · simp
    · split
      · simp
      · simp; omega
theorem mem_set {bs : List BS} {k : Nat} {t b : BS} (h : b ∈ bs.set k t) : b ∈ bs ∨ b = t := by
  rcases List.mem_or_eq_of_mem_set h with h | h
  · exact .inl h
  · exact .inr h

theorem doB_len (bs : List BS) (o : BO) : (doB bs o).1.length ≤ bs.length + 1 := by
  unfold doB
  split
  · exact newB_len _ _
  · split
    · simp
    · split
      · simp
      · split
        · split
          · unfold killB
            split
            · split
              · simp
              · simp; omega
            · simp
          · split
            · unfold putB
              split
              · split
                · simp
                · split <;> simp
              · simp
            · split
              · unfold backB
                split
                · split
                  · simp
                  · split
                    · split <;> simp
                    · simp
                · simp
              · split
                · split
                  · simp
                  · exact newB_len _ _
                · split
                  · simp
                  · exact newB_len _ _
        · simp

theorem doB_mem {bs : List BS} {o : BO} {b : BS} (hB : ∀ b ∈ bs, b.bl.length = 8) (h : b ∈ (doB bs o).1) : b.bl.length = 8 := by
  have hn : ∀ s : BS, s.bl.length = 8 → ∀ x ∈ (newB bs s).1, x.bl.length = 8 := fun s hs x hx => by
    rcases newB_mem hx with h | rfl
    · exact hB _ h
    · exact hs
  have hg : ∀ (i : Nat) t, bs[i]? = some t → t.bl.length = 8 := fun i t ht => hB _ (List.mem_of_getElem? ht)
  unfold doB at h
  split at h
  · exact hn _ (by rfl) _ h
  · split at h
    · exact hB _ h
    · split at h
      · exact hB _ h
      · split at h
        · rename_i t ht
          split at h
          · unfold killB at h
            split at h
            · split at h
              · exact hB _ h
              · simp only [List.mem_append] at h
                rcases h with h | h
                · exact hB _ (List.mem_of_mem_take h)
                · exact hB _ (List.mem_of_mem_drop h)
            · exact hB _ h
          · split at h
            · unfold putB at h
              split at h
              · rename_i t2 ht2
                split at h
                · exact hB _ h
                · split at h
                  · exact hB _ h
                  · rcases mem_set h with h | rfl
                    · exact hB _ h
                    · simp [hg _ _ ht2]
              · exact hB _ h
            · split at h
              · unfold backB at h
                split at h
                · split at h
                  · exact hB _ h
                  · split at h
                    · rename_i u hu
                      split at h
                      · exact hB _ h
                      · rcases mem_set h with h | rfl
                        · exact hB _ h
                        · simp [hg _ _ hu]
                    · exact hB _ h
                · exact hB _ h
              · split at h
                · split at h
                  · exact hB _ h
                  · exact hn _ (by simp [hg _ _ ht]) _ h
                · split at h
                  · exact hB _ h
                  · exact hn _ (by simp [hg _ _ ht]) _ h
        · exact hB _ h

theorem okAll_at {bs : List BS} (h : okAll bs = true) {i : Nat} {s : BS} (hs : bs[i]? = some s) : okAt bs i s = true := by
  unfold okAll at h
  rw [List.all_eq_true] at h
  have := h i (by have := (List.getElem?_eq_some_iff.1 hs).1; simpa using this)
  rw [hs] at this; exact this

theorem okAll_srt {bs : List BS} (h : okAll bs = true) : Srt bs := by
  have step : ∀ i a b, bs[i]? = some a → bs[i + 1]? = some b → Op.bytesLess a.name b.name = true := fun i a b ha hb => by
    have := okAll_at h hb
    simp only [okAt, Bool.and_eq_true, okPrev] at this
    have h2 := this.1.1.1.2
    simp only [Nat.add_sub_cancel, ha] at h2
    simpa using h2
  intro i j a b hij ha hb
  obtain ⟨d, rfl⟩ : ∃ d, j = i + 1 + d := ⟨j - i - 1, by omega⟩
  clear hij
  induction d generalizing b with
  | zero => exact step i a b ha hb
  | succ d ih =>
    have hlt := (List.getElem?_eq_some_iff.1 hb).1
    have hc : bs[i + 1 + d]? = some (bs[i + 1 + d]'(by omega)) := List.getElem?_eq_getElem _
    exact bl_trans (ih _ hc) (step _ _ _ hc (by rw [← hb]; rfl))

theorem ibookOkB_srt {bs : List BS} (h : ibookOkB bs = true) : Srt bs := by
  simp only [ibookOkB, Bool.and_eq_true] at h; exact okAll_srt h.1.2

theorem noL_strs : ∀ l : List (List UInt8), noL (l.map AV.str) = true
  | [] => rfl
  | a :: r => by simp [noL_strs r]
theorem noL_row (b : BS) : noL (BS.row b) = true := by simp [BS.row, noL_strs]

theorem ibookDoC (bs : List BS) (o : BO) (hl : bs.length < 100000) (hB : ∀ b ∈ bs, b.bl.length = 8) (hn : ∀ b ∈ bs, b.name.length < 1000000) (ho : o.a.length < 1000000 ∧ o.b.length < 1000000) :
    ACall Go.Proofs.Tryd.prog 16 [bk bs, .agg (BO.row o)] [] (bkN [903] (ibookOkB bs) (doB bs o)) := by
  apply vc16 (by simp) (by simp)
  simp [ac16, bk, BO.row]
  refine callA_val en21 (ibookOkC bs (by omega) hB hn) (by simp [bk]) (by simp) ?_
  cases h1 : ibookOkB bs with
  | false => simp [bkN]
  | true =>
    have hS := ibookOkB_srt h1
    have hd := idoC bs o (by omega) hB hS ho
    have hdl := doB_len bs o
    generalize doB bs o = res at hd hdl
    simp
    refine callA_wh [] en58 (ownC2 bs (by omega)) (by simp [bk]) (by simp) (by simp) (by simp) (by simp) ?_
    rintro r L' ⟨rfl, rfl⟩
    refine ⟨[(900, 901)], ⟨by simp, by simp, by simp, by simp, by simp⟩, ?_⟩
    simp
    refine callA_wh [(1000, .whole 6), (1001, .whole 901)] en59 hd (by simp [BO.row]) (by simp) (by simp [ptrL, ptrOb, bkOb]; exact ⟨.inr ⟨_, _, rfl, rfl, by simp⟩, rowsMt_cl rfl (by simp)⟩) (by simp [ptrL]) (by simp) ?_
    rintro r L' ⟨id, hid, rfl, rfl⟩
    simp only [List.mem_cons, List.not_mem_nil, or_false] at hid
    rcases hid with rfl | rfl
    · refine ⟨[], ⟨by simp [ptrL], by simp, by simp, by simp [ptrL], by simp⟩, ?_⟩
      simp [ptrL, ptrOb]
      refine callA_vw [] en58 (ownC2 res.1 (by omega)) (by simp [bk, bkOb]) (by simp) (by simp) (by simp) (by simp) ?_
      rintro r L' ⟨rfl, rfl⟩
      refine ⟨by simp, by simp [bkOb, noL_row], [(900, 903)], ⟨by simp, by simp, by simp, by simp, by simp⟩, ?_⟩
      simp
      exact ⟨[(903, bkOb res.1)], by simp [bkOb], by simp [bkN]; exact ⟨903, by simp, rfl, rfl⟩⟩
    · refine ⟨[(902, 902)], ⟨by simp [ptrL], by simp, by simp, by simp [ptrL], by simp⟩, ?_⟩
      simp [ptrL, ptrOb]
      refine callA_vw [] en58 (ownC2 res.1 (by omega)) (by simp [bk, bkOb]) (by simp) (by simp) (by simp) (by simp) ?_
      rintro r L' ⟨rfl, rfl⟩
      refine ⟨by simp, by simp [bkOb, noL_row], [(900, 903)], ⟨by simp, by simp, by simp, by simp, by simp⟩, ?_⟩
      simp
      exact ⟨[(903, bkOb res.1)], by simp [bkOb], by simp [bkN]; exact ⟨903, by simp, rfl, rfl⟩⟩
end Go.Av.F
end

section
namespace Go.Av.F
open Go Go.Av
set_option linter.unusedSimpArgs false
set_option linter.unusedVariables false
set_option maxRecDepth 100000
attribute [local simp] tt3 tt4 tt9 tt5 tt22 tt25 tt23 tt35 tt33 tt27 tt42

theorem eqTy35 : eqTy Go.Proofs.Tryd.prog 35 = true := by
  have g : Go.Proofs.Tryd.prog.eqGuardType Go.Proofs.Tryd.prog.depth 35 = false := by kernel_rfl
  have s : Go.Proofs.Tryd.prog.stoodInHeld 35 = false := by kernel_rfl
  have r : (List.range 8) = [0, 1, 2, 3, 4, 5, 6, 7] := rfl
  simp [eqTy, g, eqOk, eqFs, Go.Proofs.Tryd.underlying35, Go.Proofs.Tryd.underlying33, Go.Proofs.Tryd.underlying9, Go.Proofs.Tryd.underlying3, s, shL, sh1, r]
theorem beqC_strs : ∀ (a b : List (List UInt8)), a.length = b.length → beqC (a.map .str) (b.map .str) = (a == b)
  | [], [], _ => rfl
  | x :: a, y :: b, h => by
    have := beqC_strs a b (by simpa using h)
    simp [beqC, beq1, this]
theorem beqC_row (a b : BS) (ha : a.bl.length = 8) (hb : b.bl.length = 8) : beqC (BS.row a) (BS.row b) = (a == b) := by
  have h := beqC_strs a.bl b.bl (by omega)
  have : (a == b) = (a.name == b.name && (a.kind == b.kind && (a.frm == b.frm && a.bl == b.bl))) := by
    rw [Bool.eq_iff_iff]
    cases a; cases b
    simp
  rw [this]
  simp [BS.row, beqC, beq1, h]
theorem shL_row (b : BS) (hb : b.bl.length = 8) : shL [.str [], .int .i64 0, .str [], .str [], .str [], .str [], .str [], .str [], .str [], .str [], .str []] (BS.row b) = true := by
  obtain ⟨n, k, f, bl⟩ := b
  simp only at hb
  match bl, hb with
  | [a, b, c, d, e, f, g, i], _ => simp [BS.row, shL, sh1]

theorem equalC (xs bs : List BS) (hl : xs.length < 1000000) (hl2 : bs.length < 1000000) (hA : ∀ b ∈ xs, b.bl.length = 8) (hB : ∀ b ∈ bs, b.bl.length = 8) :
    ACall Go.Proofs.Tryd.prog 66 [.lst 11 (xs.map BS.row), .lst 11 (bs.map BS.row)] [] (fun r L' => r = .bool (xs == bs) ∧ L' = []) := by
  obtain ⟨res, hres⟩ : ∃ res, (xs == bs) = res := ⟨_, rfl⟩
  rw [hres]
  apply vc66 (by simp) (by simp)
  by_cases h0 : xs.length = bs.length
  · simp [ac66, h0]
    refine ev_loopX (X := Nat) [0, 1, 12, 13] (fun i => ⟨mkT [(0, .lst 11 (xs.map BS.row)), (1, .lst 11 (bs.map BS.row)), (12, .int .i64 bs.length), (13, .int .i64 i)], hpOf [], Us.of []⟩) (fun i => bs.length - i) (fun i => i ≤ bs.length ∧ xs.take i = bs.take i) 0 ⟨by simp, [], by simp [canonOk], by simp [canon]⟩ ?_
    rintro i ⟨hi, ha⟩
    by_cases h1 : i < bs.length
    · obtain ⟨s, e0⟩ : ∃ s, bs[i] = s := ⟨_, rfl⟩
      have e1 : bs[i]? = some s := by rw [← e0]; exact List.getElem?_eq_getElem h1
      have h1' : i < xs.length := by omega
      obtain ⟨t, f0⟩ : ∃ t, xs[i] = t := ⟨_, rfl⟩
      have f1 : xs[i]? = some t := by rw [← f0]; exact List.getElem?_eq_getElem h1'
      have hs8 := hB s (List.mem_of_getElem? e1)
      have ht8 := hA t (List.mem_of_getElem? f1)
      have e2 : IntKind.i64.wrap ((i : Int) + 1) = ((i + 1 : Nat) : Int) := by rw [i64_in' _ (by omega)]; omega
      simp [ac66_l0, h1, h1', e0, e1, f0, f1, row_len _ hs8, row_len _ ht8, row_take _ hs8, row_take _ ht8, eqTy35, shL_row _ hs8, shL_row _ ht8, beqC_row _ _ ht8 hs8, e2]
      refine ⟨fun hne => ?_, fun he => ?_⟩
      · rw [← hres, beq_eq_false_iff_ne]
        rintro rfl
        rw [e1] at f1; injection f1 with f1; exact hne f1.symm
      · refine nextX_of (i + 1) (by omega) ⟨by omega, ?_⟩ [] (by simp [canonOk]) (by simp [canon])
        rw [List.take_add_one, List.take_add_one, ha, e1, f1, he]
    · have hie : i = bs.length := by omega
      subst hie
      rw [List.take_length, List.take_of_length_le (by omega)] at ha
      simp [ac66_l0]
      rw [← hres, ha]; simp
  · have h0' : ¬ (xs.length : Int) = bs.length := by omega
    have : res = false := by
      rw [← hres, beq_eq_false_iff_ne]; rintro rfl; exact h0 rfl
    simp [ac66, h0', h0, this]

theorem isameC (xs bs : List BS) (hl : xs.length < 1000000) (hl2 : bs.length < 1000000) (hA : ∀ b ∈ xs, b.bl.length = 8) (hB : ∀ b ∈ bs, b.bl.length = 8) :
    ACall Go.Proofs.Tryd.prog 20 [bk xs, bk bs] [] (fun r L' => r = .bool (xs == bs) ∧ L' = []) := by
  apply vc20 (by simp) (by simp)
  simp [ac20, bk]
  refine callA_val en66 (equalC xs bs hl hl2 hA hB) (by simp) (by simp) ?_
  simp

def getB (bs : List BS) (name : List UInt8) (i : Int) : List UInt8 × Int :=
  if ibookOkB bs = false ∨ i < 0 ∨ 7 < i then ([], 5) else if atB bs name = false then ([], 1) else match bs[atP bs name]? with
    | some t => ((t.bl[i.toNat]?).getD [], 0)
    | none => ([], 1)

theorem igetC (bs : List BS) (name : List UInt8) (i : Int) (hl : bs.length < 100000) (hB : ∀ b ∈ bs, b.bl.length = 8) (hn : ∀ b ∈ bs, b.name.length < 1000000) :
    ACall Go.Proofs.Tryd.prog 19 [bk bs, .str name, .int .i64 i] [] (fun r L' => r = .tup [.str (getB bs name i).1, .int .i64 (getB bs name i).2] ∧ L' = []) := by
  apply vc19 (by simp) (by simp)
  simp [ac19, bk]
  refine callA_val en21 (ibookOkC bs (by omega) hB hn) (by simp [bk]) (by simp) ?_
  cases h1 : ibookOkB bs with
  | false => simp [getB, h1]
  | true =>
    simp
    refine callA_val en64 (isBlockC i) (by simp) (by simp) ?_
    by_cases h2 : 0 ≤ i ∧ i ≤ 7
    rotate_left
    · have h2' : (decide (0 ≤ i) && decide (i ≤ 7)) = false := by simp; omega
      have h3 : getB bs name i = ([], 5) := by unfold getB; rw [if_pos (by omega)]
      rw [h2', h3]; simp
    have h2' : (decide (0 ≤ i) && decide (i ≤ 7)) = true := by simp; omega
    have h2n : ¬ (ibookOkB bs = false ∨ i < 0 ∨ 7 < i) := by simp [h1]; omega
    rw [h2']
    simp
    refine callA_val en65 (placeC bs name (by omega) hB (ibookOkB_srt h1)) (by simp [bk]) (by simp) ?_
    cases h3 : atB bs name with
    | false =>
      have h4 : getB bs name i = ([], 1) := by unfold getB; rw [if_neg h2n, if_pos h3]
      rw [h4]; simp
    | true =>
      obtain ⟨t, ht, htn⟩ := atB_some h3
      have ht8 := hB t (List.mem_of_getElem? ht)
      have h4 : getB bs name i = ((t.bl[i.toNat]?).getD [], 0) := by unfold getB; rw [if_neg h2n, if_neg (by simp [h3]), ht]
      obtain ⟨k, hk⟩ : ∃ k, atP bs name = k := ⟨_, rfl⟩
      rw [hk] at ht
      have hkl := (List.getElem?_eq_some_iff.1 ht).1
      have hk0 : bs[k] = t := (List.getElem?_eq_some_iff.1 ht).2
      have hil : i.toNat < t.bl.length := by omega
      obtain ⟨x, hx⟩ : ∃ x, t.bl[i.toNat]? = some x := ⟨_, List.getElem?_eq_getElem hil⟩
      rw [h4]
      simp [hk, hkl, hk0, ht, row_len _ ht8, hx]
      exact ⟨by omega, by omega⟩
end Go.Av.F
end

section
namespace Go.Av.F
open Go Go.Av
set_option linter.unusedSimpArgs false
set_option linter.unusedVariables false

/-! ### The two ways of following a set to its root -/
theorem bl_irrefl (a : List UInt8) : Op.bytesLess a a = false := by
  rw [Go.Proofs.bytesLess_eq]; simp [Std.lt_irrefl]
theorem bl_eq {a b : List UInt8} (h1 : Op.bytesLess a b = false) (h2 : Op.bytesLess b a = false) : a = b := by
  have := bytesLess_leq a b
  rw [h1, h2] at this; simpa using this

theorem srt_inj {bs : List BS} (hS : Srt bs) {i j : Nat} {a b : BS} (ha : bs[i]? = some a) (hb : bs[j]? = some b) (h : a.name = b.name) : i = j := by
  rcases Nat.lt_trichotomy i j with hij | hij | hij
  · have := hS i j a b hij ha hb; rw [h, bl_irrefl] at this; cases this
  · exact hij
  · have := hS j i b a hij hb ha; rw [h, bl_irrefl] at this; cases this

theorem atP_of {bs : List BS} (hS : Srt bs) {j : Nat} {t : BS} (ht : bs[j]? = some t) : atP bs t.name = j ∧ atB bs t.name = true := by
  have h := (takeWhile_step (fun b : BS => Op.bytesLess b.name t.name) bs j t (fun x hx y hy => hS x j y t hx hy ht) ht).2 (bl_irrefl _)
  have h' : atP bs t.name = j := h
  exact ⟨h', by unfold atB; rw [h', ht]; simp⟩

theorem find_at {bs : List BS} (hS : Srt bs) (x : List UInt8) : bs.findIdx? (fun b => b.name == x) = if atB bs x = true then some (atP bs x) else none := by
  split
  · rename_i h
    obtain ⟨u, hu, hun⟩ := atB_some h
    refine idx_step (fun b => b.name == x) bs (atP bs x) u (fun j hj y hy => ?_) hu (by simp [hun])
    rw [beq_eq_false_iff_ne]
    intro e
    have := srt_inj hS hy hu (e.trans hun.symm)
    omega
  · rename_i h
    rw [List.findIdx?_eq_none_iff]
    intro b hb
    obtain ⟨j, hj, e⟩ := List.mem_iff_getElem.1 hb
    rw [beq_eq_false_iff_ne]
    intro e2
    have hb2 : bs[j]? = some b := by rw [← e]; exact List.getElem?_eq_getElem hj
    have := (atP_of hS hb2).2
    rw [e2] at this; exact h this

theorem leads_roots {bs : List BS} (hS : Srt bs) : ∀ (m : Nat) (s : BS), leadsB bs m s = roots bs m s
  | 0, s => rfl
  | m + 1, s => by
    simp only [leadsB, roots, find_at hS]
    split
    · rfl
    · cases h : atB bs s.frm with
      | false =>
        simp
        split <;> rfl
      | true =>
        simp only [if_true]
        cases hu : bs[atP bs s.frm]? with
        | none => rfl
        | some t =>
          simp only
          by_cases hk : t.kind = s.kind
          · simp [hk]
          · simp [hk, leads_roots hS m t]

theorem roots_mono {bs : List BS} : ∀ (m : Nat) (s : BS), roots bs m s = true → roots bs (m + 1) s = true
  | 0, s, h => by simp [roots] at h
  | m + 1, s, h => by
    simp only [roots] at h
    rw [roots]
    split at h
    · rename_i h1; rw [if_pos h1]; exact h
    · rename_i h1
      rw [if_neg h1]
      split at h
      · rename_i t ht
        split at h
        · rename_i h2; rw [if_pos h2]; exact roots_mono m t h
        · cases h
      · cases h

theorem roots_step {bs : List BS} {m : Nat} (h : ∀ s ∈ bs, roots bs m s = roots bs (m + 1) s) : ∀ s, roots bs (m + 1) s = roots bs (m + 2) s := fun s => by
  rw [roots, roots]
  split
  · rfl
  · split
    · rename_i t ht
      split
      · exact h t (List.mem_of_getElem? ht)
      · rfl
    · rfl

theorem countP_strict {α : Type} {p q : α → Bool} : ∀ {l : List α}, (∀ x ∈ l, p x = true → q x = true) → (∃ x ∈ l, q x = true ∧ p x = false) → l.countP p < l.countP q
  | [], _, h => by obtain ⟨x, hx, _⟩ := h; simp at hx
  | a :: r, h, hex => by
    have hle : r.countP p ≤ r.countP q := List.countP_mono_left fun x hx => h x (List.mem_cons_of_mem _ hx)
    obtain ⟨x, hx, h1, h2⟩ := hex
    simp only [List.mem_cons] at hx
    rcases hx with rfl | hx
    · rw [List.countP_cons, List.countP_cons, if_pos h1, if_neg (by simp [h2])]; omega
    · have := countP_strict (l := r) (fun x hx => h x (List.mem_cons_of_mem _ hx)) ⟨x, hx, h1, h2⟩
      rw [List.countP_cons, List.countP_cons]
      cases ha : p a with
      | true => rw [if_pos rfl, if_pos (h a (by simp) ha)]; omega
      | false =>
        simp only [Bool.false_eq_true, if_false]
        split <;> omega

theorem roots_grow (bs : List BS) : ∀ m : Nat, (∀ s ∈ bs, roots bs m s = roots bs (m + 1) s) ∨ m + 1 ≤ bs.countP (roots bs (m + 1))
  | 0 => by
    rcases Nat.eq_zero_or_pos (bs.countP (roots bs 1)) with h | h
    · left
      intro s hs
      rw [List.countP_eq_zero] at h
      have := h s hs
      simp only [roots, Bool.not_eq_true] at this ⊢
      exact this.symm
    · right; exact h
  | m + 1 => by
    rcases roots_grow bs m with h | h
    · exact .inl fun s _ => roots_step h s
    · by_cases hs : ∀ s ∈ bs, roots bs (m + 1) s = roots bs (m + 2) s
      · exact .inl hs
      · right
        have : ∃ s ∈ bs, roots bs (m + 2) s = true ∧ roots bs (m + 1) s = false := by
          simp only [Classical.not_forall] at hs
          obtain ⟨s, hm, hne⟩ := hs
          refine ⟨s, hm, ?_⟩
          cases h1 : roots bs (m + 1) s with
          | true => exact absurd ((h1.trans (roots_mono _ _ h1).symm)) hne
          | false =>
            cases h2 : roots bs (m + 2) s with
            | true => exact ⟨rfl, rfl⟩
            | false => exact absurd (h1.trans h2.symm) hne
        have : bs.countP (roots bs (m + 1)) < bs.countP (roots bs (m + 1 + 1)) := countP_strict (fun x _ hx => roots_mono (m + 1) x hx) this
        omega

theorem roots_len (bs : List BS) : ∀ s ∈ bs, roots bs bs.length s = roots bs (bs.length + 1) s := by
  rcases roots_grow bs bs.length with h | h
  · exact h
  · have := List.countP_le_length (p := roots bs (bs.length + 1)) (l := bs); omega

theorem ok_eq (bs : List BS) : ibookOkB bs = bookOkB bs := by
  unfold ibookOkB bookOkB
  cases h : okAll bs with
  | false => simp
  | true =>
    have hS := okAll_srt h
    congr 1
    rw [← List.not_all_eq_any_not, Bool.not_not]
    rw [Bool.eq_iff_iff, List.all_eq_true, List.all_eq_true]
    constructor
    · intro h s hs; rw [← roots_len bs s hs, ← leads_roots hS]; exact h s hs
    · intro h s hs; rw [leads_roots hS, roots_len bs s hs]; exact h s hs
end Go.Av.F
end

section
namespace Go.Av.F
open Go Go.Av
set_option linter.unusedSimpArgs false
set_option linter.unusedVariables false
set_option maxRecDepth 100000
attribute [local simp] tt3 tt4 tt9 tt5 tt22 tt25 tt23 tt35 tt33 tt27 tt42 tt54

theorem manyC (s : List UInt8) (n : Int) (hn : 0 ≤ n ∧ n ≤ 100) (hs : s.length ≤ 100) : ACall Go.Proofs.Tryd.prog 118 [.str s, .int .i64 n] [] (fun r L' => ∃ t, r = .str t ∧ L' = []) := by
  apply vc118 (by simp) (by simp)
  simp [ac118]
  have w1 : ((n.toNat : Nat) : Int) = n := by omega
  have w2 : max n 0 = n := by omega
  refine ev_loopX (X := List UInt8 × List UInt8 × Nat) [0, 1, 5] (fun x => ⟨mkT [(0, .str x.1), (1, .int .i64 x.2.2), (5, .str x.2.1)], hpOf [], Us.of []⟩) (fun x => x.2.2) (fun x => x.2.1.length + x.1.length * x.2.2 ≤ 10000 ∧ x.1.length ≤ 20000 ∧ x.2.2 ≤ 100) (s, [], n.toNat)
    ⟨⟨?_, by show s.length ≤ 20000; omega, by show n.toNat ≤ 100; omega⟩, [], by simp [canonOk], by simp [canon, w1, w2]⟩ ?_
  · simp only [List.length_nil, Nat.zero_add]
    exact Nat.mul_le_mul hs (by omega : n.toNat ≤ 100)
  rintro ⟨s, out, m⟩ ⟨h1, h2, hm100⟩
  simp only at h1 h2 hm100
  by_cases h0 : m = 0
  · subst h0
    simp [ac118_l0]
  · have hm : (0 : Int) < m := by omega
    have hm' : 0 < m := by omega
    have e1 : IntKind.i64.wrap ((m : Int).tmod 2) = ((m % 2 : Nat) : Int) := by
      rw [Int.tmod_eq_emod_of_nonneg (by omega), i64_in' _ (by omega)]; omega
    have e2 : IntKind.i64.wrap ((m : Int).tdiv 2) = ((m / 2 : Nat) : Int) := by
      rw [Int.tdiv_eq_ediv_of_nonneg (by omega), i64_in' _ (by omega)]; omega
    have e3 : (m : Int).tmod 2 = ((m % 2 : Nat) : Int) := by rw [Int.tmod_eq_emod_of_nonneg (by omega)]; omega
    have e4 : (m : Int).tdiv 2 = ((m / 2 : Nat) : Int) := by rw [Int.tdiv_eq_ediv_of_nonneg (by omega)]; omega
    have e5 : IntKind.i64.wrap ((m : Int) / 2) = (m : Int) / 2 := i64_in' _ (by omega)
    have hsl : s.length ≤ 10000 := by
      have h3 : s.length * 1 ≤ s.length * m := Nat.mul_le_mul_left _ hm'
      rw [Nat.mul_one] at h3
      exact Nat.le_trans h3 (Nat.le_trans (Nat.le_add_left _ _) h1)
    by_cases hodd : m % 2 = 1
    · have hmm : m = 2 * (m / 2) + 1 := by omega
      have hk : (out ++ s).length + (s ++ s).length * (m / 2) ≤ 10000 := by
        have : s.length * m = s.length * (2 * (m / 2)) + s.length := by conv => lhs; rw [hmm, Nat.mul_add, Nat.mul_one]
        simp only [List.length_append]
        rw [← Nat.two_mul, Nat.mul_assoc, Nat.mul_left_comm]; omega
      have hol : out.length ≤ 10000 := Nat.le_trans (Nat.le_add_right _ _) h1
      simp [ac118_l0, hm, hm', e1, e2, e3, e4, e5, hodd]
      refine ⟨by omega, by omega, nextX_of (s ++ s, out ++ s, m / 2) (by simp only; omega) ⟨hk, by simp; omega, by show m / 2 ≤ 100; omega⟩ [] (by simp [canonOk]) (by simp [canon, e5])⟩
    · have hmm : m = 2 * (m / 2) := by omega
      have hk : out.length + (s ++ s).length * (m / 2) ≤ 10000 := by
        have : s.length * m = s.length * (2 * (m / 2)) := by conv => lhs; rw [hmm]
        simp only [List.length_append]
        rw [← Nat.two_mul, Nat.mul_assoc, Nat.mul_left_comm]; omega
      have hodd' : ¬ (m : Int) % 2 = 1 := by omega
      simp [ac118_l0, hm, hm', e1, e2, e3, e4, e5, hodd, hodd']
      refine ⟨by omega, nextX_of (s ++ s, out, m / 2) (by simp only; omega) ⟨hk, by simp; omega, by show m / 2 ≤ 100; omega⟩ [] (by simp [canonOk]) (by simp [canon, e5])⟩

def OpG (o : BO) : Prop := o.a.length ≤ 24 ∧ o.b.length ≤ 24
def opR (bs : List UInt8) (p : Int) (r : AV) (L' : List (Nat × Ob)) : Prop := ∃ (o : BO) (q : Int), OpG o ∧ p ≤ q ∧ q ≤ p + 20 ∧ r = .agg (BO.row o) ∧ L' = [(1000, rdOb bs q)]


def oSt (bs : List UInt8) (rows : List (List AV)) (x : Int × BO) : S :=
  ⟨mkT [(0, .ptr 1000 0 0), (3, .ptr 3 0 0), (4, .ptr 4 0 0), (5, .ptr 5 0 0)], hpOf [(1000, rdOb bs x.1), (3, ⟨1, [[.lst 11 rows]]⟩), (4, opOb ⟨0, [], [], 0, []⟩), (5, opOb x.2)], Us.of [1000, 1000, 3, 4, 5]⟩
def oGd (p k : Int) (x : Int × BO) : Prop := p ≤ x.1 ∧ x.1 ≤ p + k ∧ OpG x.2

theorem callPick {bs : List UInt8} {p n : Int} (hp : 0 ≤ p ∧ p < 1000000000) (hb : bs.length ≤ 2000) {s : S} {dst : Option Nat} {K : S → Prop} (hr : s.h 1000 = some (rdOb bs p))
    (hK : ∀ k : Int, (1 ≤ n → 0 ≤ k ∧ k < n) → (n < 1 → k = 0) → K ⟨putA s.t dst (.int .i64 k), upd s.h 1000 (some (rdOb bs (p + 1))), s.u⟩) : callA Go.Proofs.Tryd.prog 116 [.ptr 1000 0 0, .int .i64 n] dst s K := by
  refine callA_wh [(1000, .whole 1000)] en116 (pickC bs p n hp hb) (by simp) (by simp) (by simp [hr]) (by simp) (by simp [hr]) ?_
  rintro r L' ⟨k, rfl, h1, h2, rfl⟩
  refine ⟨[], ⟨by simp, by simp, by simp, by simp, by simp⟩, ?_⟩
  have e : (afterS s [(1000, .whole 1000)] [] dst (.int .i64 k) [(1000, rdOb bs (p + 1))]) = ⟨putA s.t dst (.int .i64 k), upd s.h 1000 (some (rdOb bs (p + 1))), s.u⟩ := by
    simp only [afterS]
    congr 1
    · funext i; simp; split <;> simp_all
    · exact Us.app_nil _
  rw [e]; exact hK k h1 h2

theorem callName {bs : List UInt8} {p : Int} (hp : 0 ≤ p ∧ p < 1000000000) (hb : bs.length ≤ 2000) {s : S} {dst : Option Nat} {K : S → Prop} (hr : s.h 1000 = some (rdOb bs p))
    (hK : ∀ k : List UInt8, k.length ≤ 24 → K ⟨putA s.t dst (.str k), upd s.h 1000 (some (rdOb bs (p + 1))), s.u⟩) : callA Go.Proofs.Tryd.prog 119 [.ptr 1000 0 0] dst s K := by
  refine callA_wh [(1000, .whole 1000)] en119 (nameC bs p hp hb) (by simp) (by simp) (by simp [hr]) (by simp) (by simp [hr]) ?_
  rintro r L' ⟨k, hk, rfl, rfl⟩
  refine ⟨[], ⟨by simp, by simp, by simp, by simp, by simp⟩, ?_⟩
  have e : (afterS s [(1000, .whole 1000)] [] dst (.str k) [(1000, rdOb bs (p + 1))]) = ⟨putA s.t dst (.str k), upd s.h 1000 (some (rdOb bs (p + 1))), s.u⟩ := by
    simp only [afterS]
    congr 1
    · funext i; simp; split <;> simp_all
    · exact Us.app_nil _
  rw [e]
  refine hK k ?_
  simp only [names, List.mem_cons, List.not_mem_nil, or_false] at hk
  rcases hk with rfl | rfl | rfl | rfl | rfl | rfl | rfl | rfl <;> simp

theorem callNum {bs : List UInt8} {p : Int} (ls : List Int) {id n : Nat} (hp : 0 ≤ p ∧ p < 1000000000) (hb : bs.length ≤ 2000) {s : S} {dst : Option Nat} {K : S → Prop} (hr : s.h 1000 = some (rdOb bs p)) (hid : id ≠ 1000)
    (ho : s.h id = some (i64Ob ls)) (hl : 0 < ls.length) (hl2 : ls.length < 1000000) (hn : n = ls.length)
    (hK : ∀ k : Int, k ∈ ls → K ⟨putA s.t dst (.int .i64 k), upd s.h 1000 (some (rdOb bs (p + 1))), s.u⟩) : callA Go.Proofs.Tryd.prog 115 [.ptr 1000 0 0, .sl id 0 n] dst s K := by
  subst hn
  refine callA_wh [(1000, .whole 1000), (1001, .whole id)] en115 (numC bs p ls hp hb hl hl2) (by simp) (by simp; omega) (by simp [hr, ho]; exact rowsMt_cl rfl (by simp [i64Ob, i64Row])) (by simp) (by simp [hr, ho]) ?_
  rintro r L' ⟨k, hk, rfl, rfl⟩
  refine ⟨[], ⟨by simp, by simp, by simp, by simp, by simp⟩, ?_⟩
  have e : (afterS s [(1000, .whole 1000), (1001, .whole id)] [] dst (.int .i64 k) [(1000, rdOb bs (p + 1)), (1001, i64Ob ls)]) = ⟨putA s.t dst (.int .i64 k), upd s.h 1000 (some (rdOb bs (p + 1))), s.u⟩ := by
    simp only [afterS]
    congr 1
    · funext i
      have hren : ∀ ρ, renOb ρ (i64Ob ls) = i64Ob ls := fun ρ => by simp [i64Ob, renOb, i64Row, Function.comp_def]
      simp [hren]
      by_cases h1 : i = id
      · subst h1; simp [hid, ho]
      · by_cases h2 : i = 1000 <;> simp [h1, h2]
    · exact Us.app_nil _
  rw [e]; exact hK k hk

theorem callOf {bs : List UInt8} {p : Int} (ls : List (List UInt8)) {id n : Nat} (hp : 0 ≤ p ∧ p < 1000000000) (hb : bs.length ≤ 2000) {s : S} {dst : Option Nat} {K : S → Prop} (hr : s.h 1000 = some (rdOb bs p)) (hid : id ≠ 1000)
    (ho : s.h id = some (strOb ls)) (hl : 0 < ls.length) (hl2 : ls.length < 1000000) (hn : n = ls.length)
    (hK : ∀ k : List UInt8, k ∈ ls → K ⟨putA s.t dst (.str k), upd s.h 1000 (some (rdOb bs (p + 1))), s.u⟩) : callA Go.Proofs.Tryd.prog 117 [.ptr 1000 0 0, .sl id 0 n] dst s K := by
  subst hn
  refine callA_wh [(1000, .whole 1000), (1001, .whole id)] en117 (ofC bs p ls hp hb hl hl2) (by simp) (by simp; omega) (by simp [hr, ho]; exact rowsMt_cl rfl (by simp [strOb, strRow])) (by simp) (by simp [hr, ho]) ?_
  rintro r L' ⟨k, hk, rfl, rfl⟩
  refine ⟨[], ⟨by simp, by simp, by simp, by simp, by simp⟩, ?_⟩
  have e : (afterS s [(1000, .whole 1000), (1001, .whole id)] [] dst (.str k) [(1000, rdOb bs (p + 1)), (1001, strOb ls)]) = ⟨putA s.t dst (.str k), upd s.h 1000 (some (rdOb bs (p + 1))), s.u⟩ := by
    simp only [afterS]
    congr 1
    · funext i
      have hren : ∀ ρ, renOb ρ (strOb ls) = strOb ls := fun ρ => by simp [strOb, renOb, strRow, Function.comp_def]
      simp [hren]
      by_cases h1 : i = id
      · subst h1; simp [hid, ho]
      · by_cases h2 : i = 1000 <;> simp [h1, h2]
    · exact Us.app_nil _
  rw [e]; exact hK k hk

theorem isU8_wrap (x : Int) : isU8 [.int .u8 (IntKind.u8.wrap x)] = true := by
  have h : IntKind.u8.wrap x = x % 256 := rfl
  simp [isU8, h]
  try omega

def kinds0 : List Int := [1, 1, 2, 3, 3, 3, 3, 3, 3, 3, 4, 4, 5, 6]
def texts0 : List (List UInt8) := [[120], [121], [122, 122], [111, 110, 101], [97, 122, 122], [98, 120, 108], [], [120], [97, 32, 98], [49, 50, 51, 52, 53, 54, 55, 56, 57, 48, 49, 50, 51, 52, 53, 54, 55, 56, 57, 48]]

theorem opC (bs : List UInt8) (p : Int) (bk' : List BS) (hp : 0 ≤ p ∧ p < 900000000) (hb : bs.length ≤ 2000) (hl : bk'.length < 1000000) (hB : ∀ b ∈ bk', b.bl.length = 8 ∧ b.name.length ≤ 24 ∧ b.frm.length ≤ 24) :
    ACall Go.Proofs.Tryd.prog 57 [.ptr 1000 0 0, bk bk'] [(1000, rdOb bs p)] (opR bs p) := by
  apply vv57 (by simp) (by simp)
  refine va_seq (va_of_ev _ ?_)
  simp [bk]
  refine va_cut [0, 3, 4, 5] (oSt bs (bk'.map BS.row)) (oGd p 5) ?_ ?_
  · simp
    refine callNum (p := p) kinds0 (by omega) hb (by simp) (by omega) (by simp [i64Ob, kinds0, i64Row]) (by simp [kinds0]) (by simp [kinds0]) (by simp [kinds0]) fun k1 hk1 => ?_
    simp
    refine callName (p := p + 1) (by omega) hb (by simp) fun k2 hk2 => ?_
    simp
    refine callName (p := p + 1 + 1) (by omega) hb (by simp) fun k3 hk3 => ?_
    simp
    refine callPick (p := p + 1 + 1 + 1) (by omega) hb (by simp) fun k4 hk4 _ => ?_
    simp
    refine callOf (p := p + 1 + 1 + 1 + 1) texts0 (by omega) hb (by simp) (by omega) (by simp [strOb, texts0, strRow]) (by simp [texts0]) (by simp [texts0]) (by simp [texts0]) fun k5 hk5 => ?_
    simp
    refine cutX_of (p + 1 + 1 + 1 + 1 + 1, ⟨k1, k2, k3, k4, k5⟩) ⟨by simp only; omega, by simp only; omega, hk2, hk3⟩ [(1000, 1000), (3, 3), (4, 4), (5, 5)] (by simp [canonOk]) ?_
    simp [canon, oSt, obOf, opOb, BO.row]
  rintro ⟨q, o⟩ ⟨h1, h2, h3, h4⟩
  simp only at h1 h2 h3 h4
  refine va_cut [0, 3, 4, 5] (oSt bs (bk'.map BS.row)) (oGd p 8) ?_ ?_
  · simp [oSt, opOb, BO.row]
    refine callPick (p := q) (by omega) hb (by simp) fun k1 hk1 _ => ?_
    have hk1 := hk1 (by omega)
    by_cases g1 : k1 = 0
    · simp [g1]
      refine callPick (p := q + 1) (by omega) hb (by simp) fun k2 hk2 _ => ?_
      simp
      refine callPick (p := q + 1 + 1) (by omega) hb (by simp) fun k3 hk3 _ => ?_
      simp
      simp only [isU8_wrap, true_and]
      refine cutX_of (q + 1 + 1 + 1, { o with text := [byteOf [.int .u8 (IntKind.u8.wrap (IntKind.i64.wrap (65 + k2)))], byteOf [.int .u8 (IntKind.u8.wrap (IntKind.i64.wrap (48 + k3)))]] }) ⟨by simp only; omega, by simp only; omega, h3, h4⟩ [(1000, 1000), (3, 3), (4, 4), (5, 5)] (by simp [canonOk]) (by simp [canon, oSt, obOf, opOb, BO.row])
    · simp [g1]
      refine cutX_of (q + 1, o) ⟨by simp only; omega, by simp only; omega, h3, h4⟩ [(1000, 1000), (3, 3), (4, 4), (5, 5)] (by simp [canonOk]) (by simp [canon, oSt, obOf, opOb, BO.row])
  rintro ⟨q, o⟩ ⟨h1, h2, h3, h4⟩
  simp only at h1 h2 h3 h4
  have nth : ∀ k : Int, 0 ≤ k → k < bk'.length → ∃ b, bk'[k.toNat]? = some b ∧ b ∈ bk' ∧ k.toNat < bk'.length := fun k hk1 hk2 => by
    have : k.toNat < bk'.length := by omega
    exact ⟨bk'[k.toNat], List.getElem?_eq_getElem this, List.getElem_mem _, this⟩
  refine va_cut [0, 3, 4, 5] (oSt bs (bk'.map BS.row)) (oGd p 10) ?_ ?_
  · by_cases e0 : bk' = []
    · subst e0
      simp [oSt, opOb, BO.row]
      exact cutX_of (q, o) ⟨by simp only; omega, by simp only; omega, h3, h4⟩ [(1000, 1000), (3, 3), (4, 4), (5, 5)] (by simp [canonOk]) (by simp [canon, oSt, obOf, opOb, BO.row])
    have hlen : 0 < bk'.length := List.length_pos_iff.2 e0
    by_cases e1 : o.kind = 1
    · simp [oSt, opOb, BO.row, e0, e1, hlen]
      exact cutX_of (q, o) ⟨by simp only; omega, by simp only; omega, h3, h4⟩ [(1000, 1000), (3, 3), (4, 4), (5, 5)] (by simp [canonOk]) (by simp [canon, oSt, obOf, opOb, BO.row, e1])
    simp [oSt, opOb, BO.row, e0, e1, hlen]
    refine callPick (p := q) (by omega) hb (by simp) fun k1 hk1 _ => ?_
    have hk1 := hk1 (by omega)
    by_cases g1 : 0 < k1
    · simp [g1]
      refine callPick (p := q + 1) (by omega) hb (by simp) fun k2 hk2 _ => ?_
      have hk2 := hk2 (by omega)
      obtain ⟨b, b1, b2, b3⟩ := nth k2 hk2.1 hk2.2
      have b0 : bk'[k2.toNat] = b := (List.getElem?_eq_some_iff.1 b1).2
      have b8 := hB b b2
      simp [b1, b3, b0, row_len _ b8.1]
      refine ⟨hk2, cutX_of (q + 1 + 1, { o with a := b.name }) ⟨by simp only; omega, by simp only; omega, b8.2.1, h4⟩ [(1000, 1000), (3, 3), (4, 4), (5, 5)] (by simp [canonOk]) (by simp [canon, oSt, obOf, opOb, BO.row])⟩
    · simp [g1]
      exact cutX_of (q + 1, o) ⟨by simp only; omega, by simp only; omega, h3, h4⟩ [(1000, 1000), (3, 3), (4, 4), (5, 5)] (by simp [canonOk]) (by simp [canon, oSt, obOf, opOb, BO.row, e1])
  rintro ⟨q, o⟩ ⟨h1, h2, h3, h4⟩
  simp only at h1 h2 h3 h4
  refine va_cut [0, 3, 4, 5] (oSt bs (bk'.map BS.row)) (oGd p 12) ?_ ?_
  · by_cases e0 : bk' = []
    · subst e0
      simp [oSt, opOb, BO.row]
      by_cases e1 : o.kind = 6
      · simp [e1]
        exact cutX_of (q, o) ⟨by simp only; omega, by simp only; omega, h3, h4⟩ [(1000, 1000), (3, 3), (4, 4), (5, 5)] (by simp [canonOk]) (by simp [canon, oSt, obOf, opOb, BO.row, e1])
      · simp [e1]
        exact cutX_of (q, o) ⟨by simp only; omega, by simp only; omega, h3, h4⟩ [(1000, 1000), (3, 3), (4, 4), (5, 5)] (by simp [canonOk]) (by simp [canon, oSt, obOf, opOb, BO.row])
    have hlen : 0 < bk'.length := List.length_pos_iff.2 e0
    by_cases e1 : o.kind = 6
    rotate_left
    · simp [oSt, opOb, BO.row, e0, e1, hlen]
      exact cutX_of (q, o) ⟨by simp only; omega, by simp only; omega, h3, h4⟩ [(1000, 1000), (3, 3), (4, 4), (5, 5)] (by simp [canonOk]) (by simp [canon, oSt, obOf, opOb, BO.row])
    simp [oSt, opOb, BO.row, e0, e1, hlen]
    refine callPick (p := q) (by omega) hb (by simp) fun k1 hk1 _ => ?_
    have hk1 := hk1 (by omega)
    by_cases g1 : 0 < k1
    · simp [g1]
      refine callPick (p := q + 1) (by omega) hb (by simp) fun k2 hk2 _ => ?_
      have hk2 := hk2 (by omega)
      obtain ⟨b, b1, b2, b3⟩ := nth k2 hk2.1 hk2.2
      have b0 : bk'[k2.toNat] = b := (List.getElem?_eq_some_iff.1 b1).2
      have b8 := hB b b2
      simp [b1, b3, b0, row_len _ b8.1, row_take _ b8.1]
      refine ⟨hk2, row_all b, cutX_of (q + 1 + 1, { o with a := b.frm, b := b.name }) ⟨by simp only; omega, by simp only; omega, b8.2.2, b8.2.1⟩ [(1000, 1000), (3, 3), (4, 4), (5, 5)] (by simp [canonOk]) (by simp [canon, oSt, obOf, opOb, BO.row, e1])⟩
    · simp [g1]
      exact cutX_of (q + 1, o) ⟨by simp only; omega, by simp only; omega, h3, h4⟩ [(1000, 1000), (3, 3), (4, 4), (5, 5)] (by simp [canonOk]) (by simp [canon, oSt, obOf, opOb, BO.row, e1])
  rintro ⟨q, o⟩ ⟨h1, h2, h3, h4⟩
  simp only at h1 h2 h3 h4
  refine va_cut [0, 3, 4, 5] (oSt bs (bk'.map BS.row)) (oGd p 20) ?_ ?_
  · simp [oSt, opOb, BO.row]
    refine callPick (p := q) (by omega) hb (by simp) fun k1 hk1 _ => ?_
    by_cases k0 : k1 = 0
    · simp [k0]
      refine callNum (p := q + 1) [0, 7, -1] (by omega) hb (by simp) (by omega) (by simp [i64Ob, i64Row]) (by simp) (by simp) (by simp) fun k2 hk2 => ?_
      simp
      exact cutX_of (q + 1 + 1, { o with kind := k2 }) ⟨by simp only; omega, by simp only; omega, h3, h4⟩ [(1000, 1000), (3, 3), (4, 4), (5, 5)] (by simp [canonOk]) (by simp [canon, oSt, obOf, opOb, BO.row])
    by_cases k0' : k1 = 1
    · simp [k0']
      refine callNum (p := q + 1) [-1, 8] (by omega) hb (by simp) (by omega) (by simp [i64Ob, i64Row]) (by simp) (by simp) (by simp) fun k2 hk2 => ?_
      simp
      exact cutX_of (q + 1 + 1, { o with i := k2 }) ⟨by simp only; omega, by simp only; omega, h3, h4⟩ [(1000, 1000), (3, 3), (4, 4), (5, 5)] (by simp [canonOk]) (by simp [canon, oSt, obOf, opOb, BO.row])
    by_cases k0'' : k1 = 2
    · simp [k0'']
      refine callPick (p := q + 1) (by omega) hb (by simp) fun k2 hk2 _ => ?_
      have hk2 := hk2 (by omega)
      have w : IntKind.i64.wrap (24 + k2) = 24 + k2 := i64_in' _ (by omega)
      simp [w]
      refine callA_ex (R := fun r => ∃ t, r = .str t) en118 ((manyC [120] (24 + k2) (by omega) (by simp)).mono fun r L' ⟨t, h1, h2⟩ => ⟨⟨t, h1⟩, by rw [h1]; rfl, h2⟩) (by simp) ?_
      rintro v ⟨t, rfl⟩
      simp
      exact cutX_of (q + 1 + 1, { o with text := t }) ⟨by simp only; omega, by simp only; omega, h3, h4⟩ [(1000, 1000), (3, 3), (4, 4), (5, 5)] (by simp [canonOk]) (by simp [canon, oSt, obOf, opOb, BO.row])
    by_cases k3 : k1 = 3
    · simp [k3]
      refine callOf (p := q + 1) [[], [65], [97, 98, 99, 100, 101, 102, 103]] (by omega) hb (by simp) (by omega) (by simp [strOb, strRow]) (by simp) (by simp) (by simp) fun k2 hk2 => ?_
      simp
      have hk2 : k2.length ≤ 24 := by
        simp only [List.mem_cons, List.not_mem_nil, or_false] at hk2
        rcases hk2 with rfl | rfl | rfl <;> simp
      exact cutX_of (q + 1 + 1, { o with a := k2 }) ⟨by simp only; omega, by simp only; omega, hk2, h4⟩ [(1000, 1000), (3, 3), (4, 4), (5, 5)] (by simp [canonOk]) (by simp [canon, oSt, obOf, opOb, BO.row])
    by_cases k4 : k1 = 4
    · simp [k4]
      refine callOf (p := q + 1) [[], [66], [97, 98, 99, 100, 101, 102, 103]] (by omega) hb (by simp) (by omega) (by simp [strOb, strRow]) (by simp) (by simp) (by simp) fun k2 hk2 => ?_
      simp
      have hk2 : k2.length ≤ 24 := by
        simp only [List.mem_cons, List.not_mem_nil, or_false] at hk2
        rcases hk2 with rfl | rfl | rfl <;> simp
      exact cutX_of (q + 1 + 1, { o with b := k2 }) ⟨by simp only; omega, by simp only; omega, h3, hk2⟩ [(1000, 1000), (3, 3), (4, 4), (5, 5)] (by simp [canonOk]) (by simp [canon, oSt, obOf, opOb, BO.row])
    simp [k0, k0', k0'', k3, k4]
    exact cutX_of (q + 1, o) ⟨by simp only; omega, by simp only; omega, h3, h4⟩ [(1000, 1000), (3, 3), (4, 4), (5, 5)] (by simp [canonOk]) (by simp [canon, oSt, obOf, opOb, BO.row])
  rintro ⟨q, o⟩ ⟨h1, h2, h3, h4⟩
  simp only at h1 h2 h3 h4
  refine va_of_ev _ ?_
  simp [oSt, opOb, BO.row]
  exact ⟨[(1000, rdOb bs q)], by simp, o, q, ⟨h3, h4⟩, h1, by omega, rfl, rfl⟩
end Go.Av.F
end

section
namespace Go.Av.F
open Go Go.Av
set_option linter.unusedSimpArgs false
set_option linter.unusedVariables false
set_option maxRecDepth 100000
attribute [local simp] tt3 tt4 tt9 tt5 tt22 tt25 tt23 tt35 tt33 tt27 tt42 tt54

@[simp] theorem mtL_bo (hv : Hp) (ids : List Nat) (ρ : Nat → Option Plc) (o : BO) : mtL hv ids ρ (BO.row o) (BO.row o) := mtL_cl _ (by simp [BO.row])

/-! ### What drawn books keep -/
def BkG (bs : List BS) : Prop := ∀ b ∈ bs, b.bl.length = 8 ∧ b.name.length ≤ 24 ∧ b.frm.length ≤ 24

theorem newB_gd {bs : List BS} {s : BS} (h : BkG bs) (hs : s.bl.length = 8 ∧ s.name.length ≤ 24 ∧ s.frm.length ≤ 24) : BkG (newB bs s).1 := fun b hb => by
  rcases newB_mem hb with h1 | rfl
  · exact h b h1
  · exact hs

theorem doB_gd {bs : List BS} {o : BO} (h : BkG bs) (ho : OpG o) : BkG (doB bs o).1 := by
  have hg : ∀ (i : Nat) t, bs[i]? = some t → t.bl.length = 8 ∧ t.name.length ≤ 24 ∧ t.frm.length ≤ 24 := fun i t ht => h _ (List.mem_of_getElem? ht)
  unfold doB
  split
  · exact newB_gd h ⟨rfl, ho.1, by simp⟩
  · split
    · exact h
    · split
      · exact h
      · split
        · rename_i t ht
          have := hg _ _ ht
          split
          · unfold killB
            split
            · split
              · exact h
              · intro b hb
                simp only [List.mem_append] at hb
                rcases hb with hb | hb
                · exact h _ (List.mem_of_mem_take hb)
                · exact h _ (List.mem_of_mem_drop hb)
            · exact h
          · split
            · unfold putB
              split
              · rename_i t2 ht2
                have := hg _ _ ht2
                split
                · exact h
                · split
                  · exact h
                  · intro b hb
                    rcases mem_set hb with hb | rfl
                    · exact h _ hb
                    · exact ⟨by simp [this.1], this.2⟩
              · exact h
            · split
              · unfold backB
                split
                · rename_i t2 ht2
                  have h2 := hg _ _ ht2
                  split
                  · exact h
                  · split
                    · rename_i u hu
                      have h3 := hg _ _ hu
                      split
                      · exact h
                      · intro b hb
                        rcases mem_set hb with hb | rfl
                        · exact h _ hb
                        · exact ⟨h3.1, h2.2⟩
                    · exact h
                · exact h
              · split
                · split
                  · exact h
                  · exact newB_gd h ⟨this.1, ho.2, this.2.1⟩
                · split
                  · exact h
                  · exact newB_gd h ⟨this.1, ho.2, this.2.1⟩
        · exact h

def plA (bs : List UInt8) (n : Int) (x : Nat × Int × List BS) : S :=
  ⟨mkT [(0, .ptr 1000 0 0), (1, .int .i64 n), (4, .ptr 4 0 0), (5, .ptr 5 0 0), (6, .int .i64 x.1)], hpOf [(1000, rdOb bs x.2.1), (4, ⟨1, [[.nils]]⟩), (5, ⟨1, [[.lst 11 (x.2.2.map BS.row)]]⟩)], Us.of [1000, 1000, 4, 5]⟩
def plB (bs : List UInt8) (n : Int) (x : Nat × Int × List BS) : S :=
  ⟨mkT [(0, .ptr 1000 0 0), (1, .int .i64 n), (4, .ptr 4 0 0), (5, .ptr 5 0 0), (6, .int .i64 x.1)], hpOf [(1000, rdOb bs x.2.1), (4, ⟨1, [[.nils]]⟩), (5, ⟨1, [[.sl 901 0 x.2.2.length]]⟩), (901, bkOb x.2.2)], Us.of [1000, 1000, 4, 5, 901]⟩
/-- While calls are to come the book is frozen, behind the last one it is not. -/
def plSt (bs : List UInt8) (n : Int) (x : Nat × Int × List BS) : S := if (x.1 : Int) < n then plA bs n x else plB bs n x

def plR (bs : List UInt8) (p n : Int) (r : AV) (L' : List (Nat × Ob)) : Prop := ∃ (q : Int) (b : List BS), p ≤ q ∧ q ≤ p + 20 * n ∧ BkG b ∧ b.length ≤ n ∧ ((b = [] ∧ r = .agg [.nils] ∧ L' = [(1000, rdOb bs q)]) ∨ (r = .agg [.sl 901 0 b.length] ∧ L' = [(1000, rdOb bs q), (901, bkOb b)]))

theorem playedC (bs : List UInt8) (p n : Int) (hp : 0 ≤ p ∧ p < 800000000) (hn : 0 ≤ n ∧ n ≤ 1000) (hb : bs.length ≤ 2000) :
    ACall Go.Proofs.Tryd.prog 114 [.ptr 1000 0 0, .int .i64 n] [(1000, rdOb bs p)] (plR bs p n) := by
  apply vc114 (by simp) (by simp)
  by_cases hn0 : n = 0
  · subst hn0
    simp [ac114]
    refine ev_loopX (X := Unit) [0, 1, 4, 5, 6] (fun _ => ⟨mkT [(0, .ptr 1000 0 0), (1, .int .i64 0), (4, .ptr 4 0 0), (5, .ptr 5 0 0), (6, .int .i64 0)], hpOf [(1000, rdOb bs p), (4, ⟨1, [[.nils]]⟩), (5, ⟨1, [[.nils]]⟩)], Us.of [1000, 1000, 4, 5]⟩) (fun _ => 0) (fun _ => True) () ⟨trivial, [(1000, 1000), (4, 4), (5, 5)], by simp [canonOk], by simp [canon, obOf]⟩ ?_
    rintro _ _
    simp [ac114_l0]
    exact ⟨[(1000, rdOb bs p)], by simp, p, [], by omega, by omega, by simp [BkG], by simp, .inl ⟨rfl, rfl, rfl⟩⟩
  simp [ac114]
  refine ev_loopW (X := Nat × Int × List BS) (plSt bs n) (fun x => n.toNat - x.1)
    (fun x => x.1 ≤ n.toNat ∧ p ≤ x.2.1 ∧ x.2.1 ≤ p + 20 * x.1 ∧ BkG x.2.2 ∧ x.2.2.length ≤ x.1) (0, p, [])
    ⟨⟨by simp, by simp, by simp, by simp [BkG], by simp⟩, ?_⟩ ?_
  · rw [show plSt bs n (0, p, []) = plA bs n (0, p, []) from if_pos (by simp only; omega)]
    exact (sw_imp1 5 (a := .nils) (b := .lst 11 []) (by simp) (impA_nils 11)).trans (sw_can [0, 1, 4, 5, 6] [(1000, 1000), (4, 4), (5, 5)] (by simp [canonOk]) (by simp [canon, obOf, plA]))
  rintro ⟨i, q, b⟩ ⟨h1, h2, h3, hb4⟩
  simp only at h1 h2 h3 hb4
  by_cases hi : (i : Int) < n
  rotate_left
  · have hni : (i : Int) = n := by omega
    rw [show plSt bs n (i, q, b) = plB bs n (i, q, b) from if_neg (by simp only; omega)]
    simp [ac114_l0, plB, hi]
    exact ⟨[(1000, rdOb bs q), (901, bkOb b)], by simp, q, b, h2, by omega, hb4.1, by omega, .inr ⟨rfl, rfl⟩⟩
  rw [show plSt bs n (i, q, b) = plA bs n (i, q, b) from if_pos (by simp only; omega)]
  have e2 : IntKind.i64.wrap ((i : Int) + 1) = ((i + 1 : Nat) : Int) := by rw [i64_in' _ (by omega)]; omega
  simp [ac114_l0, plA, hi]
  refine callA_wh [] en61 (copyC b (by omega)) (by simp [bk]) (by simp) (by simp) (by simp) (by simp) ?_
  rintro r L' ⟨rfl, rfl⟩
  refine ⟨[(6, 902)], ⟨by simp, by simp, by simp, by simp, by simp⟩, ?_⟩
  simp
  refine callA_wh [(1000, .whole 1000)] en57 (opC bs q b (by omega) hb (by omega) hb4.1) (by simp [bk]) (by simp) (by simp) (by simp) (by simp) ?_
  rintro r L' ⟨o, q', ho, g1, g2, rfl, rfl⟩
  refine ⟨[], ⟨by simp, by simp, by simp, by simp, by simp⟩, ?_⟩
  simp
  have hd := doC b o (by omega) (fun x hx => (hb4.1 x hx).1) (fun x hx => by have := (hb4.1 x hx).2.1; omega) ⟨by have := ho.1; omega, by have := ho.2; omega⟩
  have hgd := doB_gd hb4.1 ho
  have hdl := doB_len b o
  generalize doB b o = res at hd hgd hdl
  refine callA_wh [(1000, .whole 902)] en60 hd (by simp) (by simp) (by simp [bkOb]; exact rowsMt_cl rfl (by simp [clR])) (by simp) (by simp) ?_
  rintro r L' ⟨id, hid, rfl, rfl⟩
  simp only [List.mem_cons, List.not_mem_nil, or_false] at hid
  rcases hid with rfl | rfl
  · refine ⟨[], ⟨by simp, by simp, by simp, by simp, by simp⟩, ?_⟩
    simp [e2]
    refine nextW_of (i + 1, q', res.1) (by simp only; omega) ⟨by simp only; omega, by simp only; omega, by simp only; omega, hgd, by simp only; omega⟩ ?_
    by_cases hi2 : ((i + 1 : Nat) : Int) < n
    · rw [show plSt bs n (i + 1, q', res.1) = plA bs n (i + 1, q', res.1) from if_pos hi2]
      exact sw_fr 902 (o := bkOb res.1) (by simp [bkOb]) (by simp) (by simp) (by simp) [0, 1, 4, 5, 6] [(1000, 1000), (4, 4), (5, 5)] (by simp [canonOk]) (by simp [canon, plA, obOf, bkOb, rdOb, e2])
    · rw [show plSt bs n (i + 1, q', res.1) = plB bs n (i + 1, q', res.1) from if_neg hi2]
      exact sw_can [0, 1, 4, 5, 6] [(1000, 1000), (4, 4), (5, 5), (902, 901)] (by simp [canonOk]) (by simp [canon, plB, obOf, bkOb, rdOb, e2])
  · refine ⟨[(900, 903)], ⟨by simp, by simp, by simp, by simp, by simp⟩, ?_⟩
    simp [e2]
    refine nextW_of (i + 1, q', res.1) (by simp only; omega) ⟨by simp only; omega, by simp only; omega, by simp only; omega, hgd, by simp only; omega⟩ ?_
    by_cases hi2 : ((i + 1 : Nat) : Int) < n
    · rw [show plSt bs n (i + 1, q', res.1) = plA bs n (i + 1, q', res.1) from if_pos hi2]
      exact sw_fr 903 (o := bkOb res.1) (by simp [bkOb]) (by simp) (by simp) (by simp) [0, 1, 4, 5, 6] [(1000, 1000), (4, 4), (5, 5)] (by simp [canonOk]) (by simp [canon, plA, obOf, bkOb, rdOb, e2])
    · rw [show plSt bs n (i + 1, q', res.1) = plB bs n (i + 1, q', res.1) from if_neg hi2]
      exact sw_can [0, 1, 4, 5, 6] [(1000, 1000), (4, 4), (5, 5), (903, 901)] (by simp [canonOk]) (by simp [canon, plB, obOf, bkOb, rdOb, e2])
end Go.Av.F
end

section
namespace Go.Av.F
open Go Go.Av
set_option linter.unusedSimpArgs false
set_option linter.unusedVariables false
set_option maxRecDepth 100000
attribute [local simp] tt3 tt4 tt9 tt5 tt22 tt25 tt23 tt35 tt33 tt27 tt42 tt54

def bookR (bs : List UInt8) (p : Int) (r : AV) (L' : List (Nat × Ob)) : Prop := ∃ (q : Int) (b : List BS), p ≤ q ∧ q ≤ p + 1000 ∧ BkG b ∧ b.length ≤ 100 ∧
  ((b = [] ∧ r = .agg [.nils] ∧ L' = [(1000, rdOb bs q)]) ∨ ∃ id, (id = 69 ∨ id = 901) ∧ r = .agg [.sl id 0 b.length] ∧ L' = [(1000, rdOb bs q), (id, bkOb b)])

theorem gd_set {bs : List BS} {k : Nat} {t : BS} (h : BkG bs) (ht : t.bl.length = 8 ∧ t.name.length ≤ 24 ∧ t.frm.length ≤ 24) : BkG (bs.set k t) := fun b hb => by
  rcases mem_set hb with hb | rfl
  · exact h b hb
  · exact ht

theorem row_setn (t : BS) (x : List UInt8) : (BS.row t).set 0 (.str x) = BS.row { t with name := x } := rfl
theorem row_setk (t : BS) (x : Int) : (BS.row t).set 1 (.int .i64 x) = BS.row { t with kind := x } := rfl
theorem row_setf (t : BS) (x : List UInt8) : (BS.row t).set 2 (.str x) = BS.row { t with frm := x } := rfl
@[simp] theorem row_drop1 (t : BS) : (BS.row t).drop 1 = .int .i64 t.kind :: .str t.frm :: t.bl.map .str := rfl
@[simp] theorem row_drop2 (t : BS) : (BS.row t).drop 2 = .str t.frm :: t.bl.map .str := rfl
@[simp] theorem row_take1 (t : BS) : (BS.row t).take 1 = [.str t.name] := rfl
@[simp] theorem row_take2 (t : BS) : (BS.row t).take 2 = [.str t.name, .int .i64 t.kind] := rfl
@[simp] theorem row_take3 (t : BS) : (BS.row t).take 3 = [.str t.name, .int .i64 t.kind, .str t.frm] := rfl

theorem bookC (bs : List UInt8) (p : Int) (hp : 0 ≤ p ∧ p < 700000000) (hb : bs.length ≤ 2000) :
    ACall Go.Proofs.Tryd.prog 56 [.ptr 1000 0 0] [(1000, rdOb bs p)] (bookR bs p) := by
  apply vc56 (by simp) (by simp)
  simp [ac56]
  refine callNum (p := p) [0, 4, 10, 20, 35] (by omega) hb (by simp) (by omega) (by simp [i64Ob, i64Row]) (by simp) (by simp) (by simp) fun n hn => ?_
  have hn : 0 ≤ n ∧ n ≤ 35 := by
    simp only [List.mem_cons, List.not_mem_nil, or_false] at hn
    omega
  simp
  refine callA_wh [(1000, .whole 1000)] en114 (playedC bs (p + 1) n (by omega) (by omega) hb) (by simp) (by simp) (by simp) (by simp) (by simp) ?_
  rintro r L' ⟨q, b, h1, h2, h3, h4, ⟨h0, rfl, rfl⟩ | ⟨rfl, rfl⟩⟩
  · refine ⟨[], ⟨by simp, by simp, by simp, by simp, by simp⟩, ?_⟩
    simp
    exact ⟨[(1000, rdOb bs q)], by simp, q, [], by omega, by omega, by simp [BkG], by simp, .inl ⟨rfl, rfl, rfl⟩⟩
  refine ⟨[(901, 901)], ⟨by simp, by simp, by simp, by simp, by simp⟩, ?_⟩
  by_cases hb0 : b = []
  · subst hb0
    simp
    exact ⟨[(1000, rdOb bs q), (901, bkOb [])], by simp [bkOb], q, [], by omega, by omega, by simp [BkG], by simp, .inr ⟨901, .inr rfl, rfl, rfl⟩⟩
  have hlen : 0 < b.length := List.length_pos_iff.2 hb0
  simp [hb0]
  refine callPick (p := q) (by omega) hb (by simp) fun k hk _ => ?_
  have hk := hk (by omega)
  have hkl : k.toNat < b.length := by omega
  obtain ⟨t, t1⟩ : ∃ t, b[k.toNat]? = some t := ⟨_, List.getElem?_eq_getElem hkl⟩
  have t0 : b[k.toNat] = t := (List.getElem?_eq_some_iff.1 t1).2
  have tg := h3 t (List.mem_of_getElem? t1)
  simp
  refine callPick (p := q + 1) (by omega) hb (by simp) fun k1 _ _ => ?_
  have fin : ∀ (b' : List BS), BkG b' → b'.length ≤ 100 → ∀ q' : Int, p ≤ q' → q' ≤ p + 1000 → bookR bs p (.agg [.sl 901 0 b'.length]) [(1000, rdOb bs q'), (901, bkOb b')] := fun b' g1 g2 q' g3 g4 => ⟨q', b', g3, g4, g1, g2, .inr ⟨901, .inr rfl, rfl, rfl⟩⟩
  by_cases c0 : k1 = 0
  · simp [c0, hk, hkl, t0, t1, row_len _ tg.1]
    have hs : b.set k.toNat { t with name := [65] } = b.set k.toNat { t with name := [65] } := rfl
    have hg := gd_set (k := k.toNat) h3 (t := { t with name := [65] }) ⟨tg.1, by simp, tg.2.2⟩
    have := fin (b.set k.toNat { t with name := [65] }) hg (by simp; omega) (q + 1 + 1) (by omega) (by omega)
    rw [List.length_set] at this
    refine ⟨[(1000, rdOb bs (q + 1 + 1)), (901, bkOb (b.set k.toNat { t with name := [65] }))], ?_, this⟩
    simp [bkOb, List.map_set, BS.row]
  by_cases c1 : k1 = 1
  · simp [c1, hk, hkl, t0, t1, row_len _ tg.1]
    have hs : b.set k.toNat { t with kind := IntKind.i64.wrap (3 - t.kind) } = b.set k.toNat { t with kind := IntKind.i64.wrap (3 - t.kind) } := rfl
    have hg := gd_set (k := k.toNat) h3 (t := { t with kind := IntKind.i64.wrap (3 - t.kind) }) ⟨tg.1, tg.2.1, tg.2.2⟩
    have := fin (b.set k.toNat { t with kind := IntKind.i64.wrap (3 - t.kind) }) hg (by simp; omega) (q + 1 + 1) (by omega) (by omega)
    rw [List.length_set] at this
    refine ⟨[(1000, rdOb bs (q + 1 + 1)), (901, bkOb (b.set k.toNat { t with kind := IntKind.i64.wrap (3 - t.kind) }))], ?_, this⟩
    simp [bkOb, List.map_set, BS.row]
  by_cases c2 : k1 = 2
  · simp [c2, hk, hkl, t0, t1, row_len _ tg.1]
    refine callOf (p := q + 1 + 1) [[110, 111, 110, 101], t.name, [97]] (by omega) hb (by simp) (by omega) (by simp [strOb, strRow]) (by simp) (by simp) (by simp) fun x hx => ?_
    have hx : x.length ≤ 24 := by
      simp only [List.mem_cons, List.not_mem_nil, or_false] at hx
      rcases hx with rfl | rfl | rfl
      · simp
      · exact tg.2.1
      · simp
    simp [hk, hkl, t0, t1, row_len _ tg.1]
    have hs : b.set k.toNat { t with frm := x } = b.set k.toNat { t with frm := x } := rfl
    have hg := gd_set (k := k.toNat) h3 (t := { t with frm := x }) ⟨tg.1, tg.2.1, hx⟩
    have := fin (b.set k.toNat { t with frm := x }) hg (by simp; omega) (q + 1 + 1 + 1) (by omega) (by omega)
    rw [List.length_set] at this
    refine ⟨[(1000, rdOb bs (q + 1 + 1 + 1)), (901, bkOb (b.set k.toNat { t with frm := x }))], ?_, this⟩
    simp [bkOb, List.map_set, BS.row]
  by_cases c3 : k1 = 3
  · simp [c3, hk, hkl, t0, t1, row_len _ tg.1, row_take _ tg.1]
    refine ⟨⟨by omega, row_all t⟩, [(1000, rdOb bs (q + 1 + 1)), (69, bkOb (b ++ [t]))], by simp [bkOb], q + 1 + 1, b ++ [t], by omega, by omega, fun x hx => ?_, by simp; omega, .inr ⟨69, .inl rfl, by simp, rfl⟩⟩
    simp only [List.mem_append, List.mem_cons, List.not_mem_nil, or_false] at hx
    rcases hx with hx | rfl
    · exact h3 x hx
    · exact tg
  by_cases c4 : k1 = 4
  · simp [c4, hk, hkl, t0, t1, row_len _ tg.1]
    refine callA_ex (R := fun r => ∃ t, r = .str t) en118 ((manyC [121] 25 (by omega) (by simp)).mono fun r L' ⟨t, h1, h2⟩ => ⟨⟨t, h1⟩, by rw [h1]; rfl, h2⟩) (by simp) ?_
    rintro v ⟨x, rfl⟩
    simp [hk, hkl, t0, t1, row_len _ tg.1]
    obtain ⟨y, r, hy⟩ : ∃ y r, t.bl = y :: r := by
      cases h : t.bl with
      | nil => have := tg.1; simp [h] at this
      | cons y r => exact ⟨y, r, rfl⟩
    have hs : b.set k.toNat { t with bl := t.bl.set 0 x } = b.set k.toNat { t with bl := t.bl.set 0 x } := rfl
    have hg := gd_set (k := k.toNat) h3 (t := { t with bl := t.bl.set 0 x }) ⟨by simp [tg.1], tg.2.1, tg.2.2⟩
    have := fin (b.set k.toNat { t with bl := t.bl.set 0 x }) hg (by simp; omega) (q + 1 + 1) (by omega) (by omega)
    rw [List.length_set] at this
    refine ⟨[(1000, rdOb bs (q + 1 + 1)), (901, bkOb (b.set k.toNat { t with bl := t.bl.set 0 x }))], ?_, this⟩
    simp [bkOb, List.map_set, BS.row, hy]
  simp [c0, c1, c2, c3, c4]
  exact ⟨[(1000, rdOb bs (q + 1 + 1)), (901, bkOb b)], by simp [bkOb], fin b h3 (by omega) (q + 1 + 1) (by omega) (by omega)⟩
end Go.Av.F
end

section
namespace Go.Av.F
open Go Go.Av
set_option linter.unusedSimpArgs false
set_option linter.unusedVariables false
set_option maxRecDepth 100000
attribute [local simp] tt3 tt4 tt9 tt5 tt22 tt25 tt23 tt35 tt33 tt27 tt42 tt54

def drawR (r : AV) (L' : List (Nat × Ob)) : Prop := ∃ (b : List BS) (o : BO), BkG b ∧ b.length ≤ 100 ∧ OpG o ∧ r = .tup [bk b, .agg (BO.row o)] ∧ L' = []

def drSt (bs : List UInt8) (x : Int × List BS) : S :=
  ⟨mkT [(2, .ptr 2 0 0), (3, .ptr 3 0 0), (4, .ptr 10 0 0), (5, .ptr 5 0 0)], hpOf [(2, ⟨1, [[.nils]]⟩), (3, opOb ⟨0, [], [], 0, []⟩), (5, ⟨1, [[.lst 11 (x.2.map BS.row)]]⟩), (10, rdOb bs x.1)], Us.of [2, 3, 5, 10]⟩

theorem drawC (code : List UInt8) (hl : code.length < 4611686018427387904) : ACall Go.Proofs.Tryd.prog 15 [.lst 1 (code.map u8row)] [] drawR := by
  apply vv15 (by simp) (by simp)
  have hb : (code.take 2000).length ≤ 2000 := by simp; omega
  refine va_seq (va_of_ev _ ?_)
  simp
  refine va_seq (va_of_ev _ ?_)
  simp
  refine callA_wh [] en55 (openC code hl) (by simp) (by simp) (by simp) (by simp) (by simp) ?_
  rintro r L' ⟨rfl, rfl⟩
  refine ⟨[(10, 10)], ⟨by simp, by simp, by simp, by simp, by simp⟩, ?_⟩
  generalize code.take 2000 = bs at hb
  simp
  refine va_cutW (X := Int × List BS) (drSt bs) (fun x => 0 ≤ x.1 ∧ x.1 ≤ 1000 ∧ BkG x.2 ∧ x.2.length ≤ 100) ?_ ?_
  · simp
    refine callA_wh [(1000, .whole 10)] en56 (bookC bs 0 (by omega) hb) (by simp) (by simp) (by simp) (by simp) (by simp) ?_
    rintro r L' ⟨q, b, h1, h2, h3, h4, ⟨rfl, rfl, rfl⟩ | ⟨id, hid, rfl, rfl⟩⟩
    · refine ⟨[], ⟨by simp, by simp, by simp, by simp, by simp⟩, ?_⟩
      simp
      exact cutW_of (q, []) ⟨by simp only; omega, by simp only; omega, h3, h4⟩ ((sw_imp1 5 (a := .nils) (b := .lst 11 []) (by simp) (impA_nils 11)).trans (sw_can [2, 3, 4, 5] [(2, 2), (3, 3), (5, 5), (10, 10)] (by simp [canonOk]) (by simp [canon, obOf, drSt, opOb, BO.row])))
    · rcases hid with rfl | rfl
      · refine ⟨[(69, 901)], ⟨by simp, by simp, by simp, by simp, by simp⟩, ?_⟩
        simp
        exact cutW_of (q, b) ⟨by simp only; omega, by simp only; omega, h3, h4⟩ (sw_fr 901 (o := bkOb b) (by simp [bkOb]) (by simp) (by simp) (by simp) [2, 3, 4, 5] [(2, 2), (3, 3), (5, 5), (10, 10)] (by simp [canonOk]) (by simp [canon, obOf, drSt, opOb, BO.row, bkOb, rdOb]))
      · refine ⟨[(901, 901)], ⟨by simp, by simp, by simp, by simp, by simp⟩, ?_⟩
        simp
        exact cutW_of (q, b) ⟨by simp only; omega, by simp only; omega, h3, h4⟩ (sw_fr 901 (o := bkOb b) (by simp [bkOb]) (by simp) (by simp) (by simp) [2, 3, 4, 5] [(2, 2), (3, 3), (5, 5), (10, 10)] (by simp [canonOk]) (by simp [canon, obOf, drSt, opOb, BO.row, bkOb, rdOb]))
  rintro ⟨q, b⟩ ⟨h1, h2, h3, h4⟩
  simp only at h1 h2 h3 h4
  refine va_of_ev _ ?_
  simp [drSt]
  refine callA_wh [(1000, .whole 10)] en57 (opC bs q b (by omega) hb (by omega) h3) (by simp [bk]) (by simp) (by simp) (by simp) (by simp) ?_
  rintro r L' ⟨o, q', ho, g1, g2, rfl, rfl⟩
  refine ⟨[], ⟨by simp, by simp, by simp, by simp, by simp⟩, ?_⟩
  simp [opOb, BO.row]
  exact ⟨[], by simp, b, o, h3, h4, ho, rfl, rfl⟩
end Go.Av.F
end

section
namespace Go.Av.F
open Go Go.Av
set_option linter.unusedSimpArgs false
set_option linter.unusedVariables false

/-! ### What an orderly book is -/
inductive Rt (bs : List BS) : BS → Prop
  | root (s : BS) : s.frm = [] → s.kind = 1 → Rt bs s
  | step (s t : BS) : s.frm ≠ [] → t ∈ bs → t.name = s.frm → t.kind ≠ s.kind → Rt bs t → Rt bs s

def Pw (bs : List BS) : Prop := bs.Pairwise fun a b => Op.bytesLess a.name b.name = true
def Fine (s : BS) : Prop := nameB s.name = true ∧ 1 ≤ s.kind ∧ s.kind ≤ 2 ∧ ∀ t ∈ s.bl, t.length ≤ 24
def Ok (bs : List BS) : Prop := bs.length ≤ 6 ∧ Pw bs ∧ ∀ s ∈ bs, Fine s ∧ Rt bs s

theorem pw_srt {bs : List BS} (h : Pw bs) : Srt bs := fun i j a b hij ha hb => by
  obtain ⟨h1, rfl⟩ := List.getElem?_eq_some_iff.1 ha
  obtain ⟨h2, rfl⟩ := List.getElem?_eq_some_iff.1 hb
  exact (List.pairwise_iff_getElem.1 h) i j h1 h2 hij
theorem srt_pw {bs : List BS} (h : Srt bs) : Pw bs := List.pairwise_iff_getElem.2 fun i j h1 h2 hij => h i j _ _ hij (List.getElem?_eq_getElem h1) (List.getElem?_eq_getElem h2)

theorem mem_inj {bs : List BS} (hS : Srt bs) {a b : BS} (ha : a ∈ bs) (hb : b ∈ bs) (h : a.name = b.name) : a = b := by
  obtain ⟨i, hi, rfl⟩ := List.mem_iff_getElem.1 ha
  obtain ⟨j, hj, rfl⟩ := List.mem_iff_getElem.1 hb
  have := srt_inj hS (List.getElem?_eq_getElem hi) (List.getElem?_eq_getElem hj) h
  subst this; rfl

theorem at_mem {bs : List BS} (hS : Srt bs) {t : BS} (h : t ∈ bs) : bs[atP bs t.name]? = some t ∧ atB bs t.name = true := by
  obtain ⟨i, hi, rfl⟩ := List.mem_iff_getElem.1 h
  have := atP_of hS (List.getElem?_eq_getElem hi)
  exact ⟨by rw [this.1]; exact List.getElem?_eq_getElem hi, this.2⟩

theorem rt_roots {bs : List BS} (hS : Srt bs) {s : BS} (h : Rt bs s) : ∃ n, roots bs n s = true := by
  induction h with
  | root s h1 h2 => exact ⟨1, by simp [roots, h1, h2]⟩
  | step s t h1 h2 h3 h4 _ ih =>
    obtain ⟨n, hn⟩ := ih
    obtain ⟨e1, e2⟩ := at_mem hS h2
    rw [h3] at e1 e2
    exact ⟨n + 1, by simp [roots, h1, e1, e2, h4, hn]⟩

theorem roots_rt {bs : List BS} : ∀ (n : Nat) (s : BS), roots bs n s = true → Rt bs s
  | 0, s, h => by simp [roots] at h
  | n + 1, s, h => by
    simp only [roots] at h
    split at h
    · rename_i h1; exact .root s h1 (by simpa using h)
    · rename_i h1
      split at h
      · rename_i t ht
        split at h
        · rename_i h2
          obtain ⟨u, hu, hun⟩ := atB_some h2.1
          rw [ht] at hu; injection hu with hu; subst hu
          exact .step s t h1 (List.mem_of_getElem? ht) hun h2.2 (roots_rt n t h)
        · cases h
      · cases h

theorem roots_add (bs : List BS) : ∀ (k : Nat) (s : BS), s ∈ bs → roots bs (bs.length + k) s = roots bs bs.length s
  | 0, s, hs => rfl
  | k + 1, s, hs => by
    have h : ∀ (k : Nat), ∀ s ∈ bs, roots bs (bs.length + k) s = roots bs (bs.length + k + 1) s := fun k => by
      induction k with
      | zero => exact roots_len bs
      | succ k ih => exact fun s _ => roots_step ih s
    have := h k s hs
    rw [show bs.length + (k + 1) = bs.length + k + 1 by omega, ← this]
    exact roots_add bs k s hs

theorem roots_any {bs : List BS} {s : BS} (hs : s ∈ bs) {n : Nat} (h : roots bs n s = true) : roots bs (bs.length + 1) s = true := by
  have : ∀ k, roots bs (n + k) s = true := fun k => by
    induction k with
    | zero => exact h
    | succ k ih => exact roots_mono _ _ ih
  have h1 := this bs.length
  rw [Nat.add_comm, roots_add bs n s hs] at h1
  exact roots_mono _ _ h1

theorem okB_iff {bs : List BS} : bookOkB bs = true ↔ Ok bs := by
  constructor
  · intro h
    simp only [bookOkB, Bool.and_eq_true, decide_eq_true_eq, List.all_eq_true] at h
    refine ⟨h.1.1, srt_pw (okAll_srt h.1.2), fun s hs => ⟨?_, roots_rt _ _ (h.2 s hs)⟩⟩
    obtain ⟨i, hi, e⟩ := List.mem_iff_getElem.1 hs
    have := okAll_at h.1.2 (i := i) (s := s) (by rw [← e]; exact List.getElem?_eq_getElem hi)
    simp only [okAt, Bool.and_eq_true, decide_eq_true_eq, List.all_eq_true] at this
    exact ⟨this.1.1.1.1, this.1.1.2, this.1.2, this.2⟩
  · rintro ⟨h1, h2, h3⟩
    have hS := pw_srt h2
    simp only [bookOkB, Bool.and_eq_true, decide_eq_true_eq, List.all_eq_true]
    refine ⟨⟨h1, ?_⟩, fun s hs => ?_⟩
    · unfold okAll
      rw [List.all_eq_true]
      intro i hi
      have hil : i < bs.length := by simpa using hi
      rw [List.getElem?_eq_getElem hil]
      obtain ⟨g1, g2, g3, g4⟩ := (h3 _ (List.getElem_mem hil)).1
      simp only [okAt, Bool.and_eq_true, decide_eq_true_eq, List.all_eq_true]
      refine ⟨⟨⟨⟨g1, ?_⟩, g2⟩, g3⟩, g4⟩
      unfold okPrev
      cases i with
      | zero => simp
      | succ i =>
        have : i < bs.length := by omega
        simp only [Nat.add_sub_cancel, List.getElem?_eq_getElem this]
        simp [hS i (i + 1) _ _ (by omega) (List.getElem?_eq_getElem this) (List.getElem?_eq_getElem hil)]
    · obtain ⟨n, hn⟩ := rt_roots hS (h3 s hs).2
      exact roots_any hs hn

/-- Rooted in another book. -/
theorem Rt.map {bs bs' : List BS} (hb : ∀ u ∈ bs, ∃ u' ∈ bs', u'.name = u.name ∧ u'.kind = u.kind ∧ u'.frm = u.frm) {s : BS} (h : Rt bs s) : ∀ s' : BS, s'.frm = s.frm → s'.kind = s.kind → Rt bs' s' := by
  induction h with
  | root s h1 h2 => exact fun s' e1 e2 => .root s' (e1.trans h1) (e2.trans h2)
  | step s t h1 h2 h3 h4 _ ih =>
    intro s' e1 e2
    obtain ⟨u, hu, g1, g2, g3⟩ := hb t h2
    exact .step s' u (by rw [e1]; exact h1) hu (by rw [e1, g1]; exact h3) (by rw [e2, g2]; exact h4) (ih u g3 g2)

/-- A name that a book does not hold. -/
theorem at_none {bs : List BS} (hS : Srt bs) {x : List UInt8} (h : atB bs x = false) : ∀ t ∈ bs, t.name ≠ x := fun t ht e => by
  have := (at_mem hS ht).2
  rw [e, h] at this; cases this

theorem tw_lt (p : BS → Bool) : ∀ (l : List BS), ∀ t ∈ l.take (l.takeWhile p).length, p t = true
  | [], t, h => by simp at h
  | a :: r, t, h => by
    rw [List.takeWhile_cons] at h
    split at h
    · rename_i ha
      simp only [List.length_cons, List.take_succ_cons, List.mem_cons] at h
      rcases h with rfl | h
      · exact ha
      · exact tw_lt p r t h
    · simp at h
theorem tw_ge (p : BS → Bool) : ∀ (l : List BS) (t : BS) (r : List BS), l.drop (l.takeWhile p).length = t :: r → p t = false
  | [], t, r, h => by simp at h
  | a :: l, t, r, h => by
    rw [List.takeWhile_cons] at h
    split at h
    · exact tw_ge p l t r (by simpa using h)
    · rename_i ha
      simp only [List.length_nil, List.drop_zero, List.cons.injEq] at h
      rw [← h.1]; simpa using ha

/-- A new set in its place. -/
theorem pw_ins {bs : List BS} (h : Pw bs) {s : BS} (hn : atB bs s.name = false) : Pw (bs.take (atP bs s.name) ++ s :: bs.drop (atP bs s.name)) := by
  have hm : ∀ t ∈ bs, t.name ≠ s.name := at_none (pw_srt h) hn
  unfold Pw
  have hsp : (bs.take (atP bs s.name) ++ bs.drop (atP bs s.name)).Pairwise (fun a b => Op.bytesLess a.name b.name = true) := by rw [List.take_append_drop]; exact h
  rw [List.pairwise_append] at hsp ⊢
  obtain ⟨h1, h2, h3⟩ := hsp
  have hlt : ∀ t ∈ bs.take (atP bs s.name), Op.bytesLess t.name s.name = true := fun t ht => tw_lt (fun b => Op.bytesLess b.name s.name) bs t ht
  have hgt : ∀ t ∈ bs.drop (atP bs s.name), Op.bytesLess s.name t.name = true := by
    cases hd : bs.drop (atP bs s.name) with
    | nil => simp
    | cons a r =>
      have ha : Op.bytesLess s.name a.name = true := by
        have h0 : Op.bytesLess a.name s.name = false := tw_ge (fun b => Op.bytesLess b.name s.name) bs a r hd
        cases h9 : Op.bytesLess s.name a.name with
        | true => rfl
        | false => exact absurd (bl_eq h0 h9) (hm a (List.mem_of_mem_drop (by rw [hd]; simp)))
      rw [hd, List.pairwise_cons] at h2
      intro t ht
      simp only [List.mem_cons] at ht
      rcases ht with rfl | ht
      · exact ha
      · exact bl_trans ha (h2.1 t ht)
  refine ⟨h1, List.pairwise_cons.2 ⟨hgt, h2⟩, fun a ha b hb => ?_⟩
  simp only [List.mem_cons] at hb
  rcases hb with rfl | hb
  · exact hlt a ha
  · exact h3 a ha b hb

theorem ins_mem {bs : List BS} {k : Nat} {s t : BS} : t ∈ bs.take k ++ s :: bs.drop k ↔ t = s ∨ t ∈ bs := by
  constructor
  · intro h
    simp only [List.mem_append, List.mem_cons] at h
    rcases h with h | h | h
    · exact .inr (List.mem_of_mem_take h)
    · exact .inl h
    · exact .inr (List.mem_of_mem_drop h)
  · intro h
    simp only [List.mem_append, List.mem_cons]
    rcases h with h | h
    · exact .inr (.inl h)
    · rw [← List.take_append_drop k bs, List.mem_append] at h
      rcases h with h | h
      · exact .inl h
      · exact .inr (.inr h)

/-- The new set in the book: what 'newB' does where it does something. -/
theorem newB_cases (bs : List BS) (s : BS) : newB bs s = (bs.take (atP bs s.name) ++ s :: bs.drop (atP bs s.name), 0) ∧ nameB s.name = true ∧ atB bs s.name = false ∧ bs.length ≠ 6 ∨ ∃ c, c ≠ 0 ∧ newB bs s = (bs, c) := by
  unfold newB
  split
  · exact .inr ⟨5, by omega, rfl⟩
  · split
    · exact .inr ⟨2, by omega, rfl⟩
    · split
      · exact .inr ⟨4, by omega, rfl⟩
      · rename_i h1 h2 h3; exact .inl ⟨rfl, by simpa using h1, by simpa using h2, h3⟩

theorem ok_new {bs : List BS} (h : Ok bs) {s : BS} (h1 : nameB s.name = true) (h2 : atB bs s.name = false) (h3 : bs.length ≠ 6) (h4 : 1 ≤ s.kind) (h5 : s.kind ≤ 2) (h6 : ∀ t ∈ s.bl, t.length ≤ 24) (h7 : ∀ bs' : List BS, (∀ t ∈ bs, t ∈ bs') → Rt bs' s) :
    Ok (bs.take (atP bs s.name) ++ s :: bs.drop (atP bs s.name)) := by
  obtain ⟨g1, g2, g3⟩ := h
  refine ⟨?_, pw_ins g2 h2, fun t ht => ?_⟩
  · simp; omega
  rw [ins_mem] at ht
  rcases ht with rfl | ht
  · exact ⟨⟨h1, h4, h5, h6⟩, h7 _ fun t ht => ins_mem.2 (.inr ht)⟩
  · exact ⟨(g3 t ht).1, (g3 t ht).2.map (fun u hu => ⟨u, ins_mem.2 (.inr hu), rfl, rfl, rfl⟩) t rfl rfl⟩

theorem ok_set {bs : List BS} (h : Ok bs) {k : Nat} {t : BS} (ht : bs[k]? = some t) {bl : List (List UInt8)} (hbl : ∀ x ∈ bl, x.length ≤ 24) : Ok (bs.set k { t with bl := bl }) := by
  obtain ⟨g1, g2, g3⟩ := h
  have hk := (List.getElem?_eq_some_iff.1 ht).1
  have hkt := (List.getElem?_eq_some_iff.1 ht).2
  have hmap : ∀ u ∈ bs, ∃ u' ∈ bs.set k { t with bl := bl }, u'.name = u.name ∧ u'.kind = u.kind ∧ u'.frm = u.frm := fun u hu => by
    obtain ⟨i, hi, e⟩ := List.mem_iff_getElem.1 hu
    by_cases hik : i = k
    · subst hik
      rw [hkt] at e; subst e
      exact ⟨{ t with bl := bl }, List.mem_set hk _, rfl, rfl, rfl⟩
    · refine ⟨u, ?_, rfl, rfl, rfl⟩
      rw [List.mem_iff_getElem]
      exact ⟨i, by simpa using hi, by rw [List.getElem_set_ne (Ne.symm hik)]; exact e⟩
  refine ⟨by simpa using g1, ?_, fun u hu => ?_⟩
  · refine srt_pw fun i j a b hij ha hb => ?_
    have key : ∀ (i : Nat) (a : BS), (bs.set k { t with bl := bl })[i]? = some a → ∃ a', bs[i]? = some a' ∧ a'.name = a.name := fun i a ha => by
      by_cases hik : k = i
      · subst hik
        rw [List.getElem?_set_self hk] at ha; injection ha with ha; subst ha
        exact ⟨t, ht, rfl⟩
      · rw [List.getElem?_set_ne hik] at ha; exact ⟨a, ha, rfl⟩
    obtain ⟨a', h1, h2⟩ := key i a ha
    obtain ⟨b', h3, h4⟩ := key j b hb
    rw [← h2, ← h4]; exact pw_srt g2 i j a' b' hij h1 h3
  · rcases List.mem_or_eq_of_mem_set hu with hu | rfl
    · exact ⟨(g3 u hu).1, (g3 u hu).2.map hmap u rfl rfl⟩
    · have h9 := g3 t (List.mem_of_getElem? ht)
      exact ⟨⟨h9.1.1, h9.1.2.1, h9.1.2.2.1, hbl⟩, h9.2.map hmap _ rfl rfl⟩

theorem del_mem {bs : List BS} {k : Nat} {t u : BS} (ht : bs[k]? = some t) (hu : u ∈ bs) (hne : u ≠ t) : u ∈ bs.take k ++ bs.drop (k + 1) := by
  obtain ⟨hk, hkt⟩ := List.getElem?_eq_some_iff.1 ht
  have e : bs = bs.take k ++ t :: bs.drop (k + 1) := by
    rw [← hkt, List.getElem_cons_drop, List.take_append_drop]
  rw [e] at hu
  simp only [List.mem_append, List.mem_cons] at hu ⊢
  rcases hu with h | h | h
  · exact .inl h
  · exact absurd h hne
  · exact .inr h
theorem mem_del {bs : List BS} {k : Nat} {u : BS} (hu : u ∈ bs.take k ++ bs.drop (k + 1)) : u ∈ bs := by
  rw [List.mem_append] at hu
  exact hu.elim List.mem_of_mem_take List.mem_of_mem_drop

theorem ok_del {bs : List BS} (h : Ok bs) {k : Nat} {t : BS} (ht : bs[k]? = some t) (hf : ∀ b ∈ bs, b.frm ≠ t.name) : Ok (bs.take k ++ bs.drop (k + 1)) := by
  obtain ⟨g1, g2, g3⟩ := h
  have hrt : ∀ {s : BS}, Rt bs s → s ∈ bs → Rt (bs.take k ++ bs.drop (k + 1)) s := fun {s} hr => by
    induction hr with
    | root s h1 h2 => exact fun _ => .root s h1 h2
    | step s u h1 h2 h3 h4 _ ih =>
      intro hs
      refine .step s u h1 (del_mem ht h2 ?_) h3 h4 (ih h2)
      rintro rfl
      exact hf s hs h3.symm
  refine ⟨by simp; omega, ?_, fun u hu => ⟨(g3 u (mem_del hu)).1, hrt (g3 u (mem_del hu)).2 (mem_del hu)⟩⟩
  refine List.Pairwise.sublist ?_ g2
  have : (bs.take k ++ bs.drop (k + 1)).Sublist (bs.take k ++ bs.drop k) := List.Sublist.append (List.Sublist.refl _) (List.drop_sublist_drop_left bs (by omega))
  rwa [List.take_append_drop] at this
end Go.Av.F
end

section
namespace Go.Av.F
open Go Go.Av
set_option linter.unusedSimpArgs false
set_option linter.unusedVariables false

/-! ### What an operation that is done does -/
def insB (bs : List BS) (s : BS) : List BS := bs.take (atP bs s.name) ++ s :: bs.drop (atP bs s.name)
inductive Done (bs : List BS) (o : BO) : List BS → Prop
  | new (s : BS) : o.kind = 1 → s.name = o.a → s.kind = 1 → s.frm = [] → s.bl = zbl → nameB s.name = true → atB bs s.name = false → bs.length ≠ 6 → Done bs o (insB bs s)
  | twin (s t : BS) : (o.kind = 4 ∨ o.kind = 5) → s.name = o.b → t ∈ bs → t.name = o.a → s.frm = t.name → s.bl = t.bl → 1 ≤ s.kind → s.kind ≤ 2 → t.kind ≠ s.kind → nameB s.name = true → atB bs s.name = false → bs.length ≠ 6 → Done bs o (insB bs s)
  | kill (k : Nat) (t : BS) : o.kind = 2 → bs[k]? = some t → t.name = o.a → (∀ b ∈ bs, b.frm ≠ t.name) → Done bs o (bs.take k ++ bs.drop (k + 1))
  | put (k : Nat) (t : BS) : o.kind = 3 → bs[k]? = some t → t.name = o.a → t.kind = 1 → 0 ≤ o.i → o.i < 8 → o.text.length ≤ 24 → Done bs o (bs.set k { t with bl := t.bl.set o.i.toNat o.text })
  | back (k : Nat) (t u : BS) : o.kind = 6 → bs[k]? = some t → t.name = o.a → t.kind = 1 → u ∈ bs → u.name = o.b → u.kind = 2 → Done bs o (bs.set k { t with bl := u.bl })

theorem doB_done (bs : List BS) (o : BO) : (∃ c, c ≠ 0 ∧ doB bs o = (bs, c)) ∨ ∃ x, Done bs o x ∧ doB bs o = (x, 0) := by
  unfold doB
  split
  · rename_i hk
    rcases newB_cases bs ⟨o.a, 1, [], zbl⟩ with ⟨h1, h2, h3, h4⟩ | h
    · exact .inr ⟨_, .new ⟨o.a, 1, [], zbl⟩ hk rfl rfl rfl rfl h2 h3 h4, h1⟩
    · exact .inl h
  · split
    · exact .inl ⟨5, by omega, rfl⟩
    · split
      · exact .inl ⟨1, by omega, rfl⟩
      · rename_i ha
        obtain ⟨t, ht, htn⟩ := atB_some (bs := bs) (name := o.a) (by simpa using ha)
        rw [ht]
        simp only
        have htm := List.mem_of_getElem? ht
        split
        · rename_i hk
          unfold killB
          rw [ht]
          simp only
          split
          · exact .inl ⟨6, by omega, rfl⟩
          · rename_i hf
            exact .inr ⟨_, .kill _ t hk ht htn (fun b hb e => hf (List.any_eq_true.2 ⟨b, hb, by simp [e]⟩)), rfl⟩
        · split
          · rename_i hk
            unfold putB
            rw [ht]
            simp only
            split
            · exact .inl ⟨5, by omega, rfl⟩
            · split
              · exact .inl ⟨3, by omega, rfl⟩
              · rename_i h1 h2
                exact .inr ⟨_, .put _ t hk ht htn (by omega) (by omega) (by omega) (by omega), rfl⟩
          · split
            · rename_i hk
              unfold backB
              rw [ht]
              simp only
              split
              · exact .inl ⟨1, by omega, rfl⟩
              · rename_i hb
                obtain ⟨u, hu, hun⟩ := atB_some (bs := bs) (name := o.b) (by simpa using hb)
                rw [hu]
                simp only
                split
                · exact .inl ⟨3, by omega, rfl⟩
                · rename_i h1
                  exact .inr ⟨_, .back _ t u hk ht htn (by omega) (List.mem_of_getElem? hu) hun (by omega), rfl⟩
            · split
              · split
                · exact .inl ⟨3, by omega, rfl⟩
                · rename_i hk h1
                  rcases newB_cases bs ⟨o.b, 1, t.name, t.bl⟩ with ⟨h5, h2, h3, h4⟩ | h
                  · exact .inr ⟨_, .twin ⟨o.b, 1, t.name, t.bl⟩ t (.inr hk) rfl htm htn rfl rfl (by simp) (by simp) (by simp only; omega) h2 h3 h4, h5⟩
                  · exact .inl h
              · split
                · exact .inl ⟨3, by omega, rfl⟩
                · rename_i n1 n2 n3 n4 n5 n6 h1
                  rcases newB_cases bs ⟨o.b, 2, t.name, t.bl⟩ with ⟨h5, h2, h3, h4⟩ | h
                  · exact .inr ⟨_, .twin ⟨o.b, 2, t.name, t.bl⟩ t (.inl (by omega)) rfl htm htn rfl rfl (by simp) (by simp) (by simp only; omega) h2 h3 h4, h5⟩
                  · exact .inl h

theorem name_ne {s : List UInt8} (h : nameB s = true) : s ≠ [] := by
  rintro rfl; simp [nameB] at h

theorem done_ok {bs : List BS} {o : BO} {x : List BS} (h : Ok bs) (hd : Done bs o x) : Ok x := by
  cases hd with
  | new s h1 h2 h3 h4 h5 h6 h7 h8 => exact ok_new h h6 h7 h8 (by omega) (by omega) (by rw [h5]; decide) (fun bs' _ => .root s h4 h3)
  | twin s t h1 h2 h3 h4 h5 h6 h7 h8 h9 h10 h11 h12 =>
    have ht := h.2.2 t h3
    exact ok_new h h10 h11 h12 h7 h8 (by rw [h6]; exact ht.1.2.2.2) (fun bs' hb => .step s t (by rw [h5]; exact name_ne ht.1.1) (hb t h3) h5.symm h9 (ht.2.map (fun u hu => ⟨u, hb u hu, rfl, rfl, rfl⟩) t rfl rfl))
  | kill k t h1 h2 h3 h4 => exact ok_del h h2 h4
  | put k t h1 h2 h3 h4 h5 h6 h7 =>
    refine ok_set h h2 fun y hy => ?_
    rcases List.mem_or_eq_of_mem_set hy with hy | rfl
    · exact (h.2.2 t (List.mem_of_getElem? h2)).1.2.2.2 y hy
    · exact h7
  | back k t u h1 h2 h3 h4 h5 h6 h7 => exact ok_set h h2 (h.2.2 u h5).1.2.2.2

theorem ok_ok {bs : List BS} (h : Ok bs) : ibookOkB bs = true ∧ bookOkB bs = true := ⟨(ok_eq bs).trans (okB_iff.2 h), okB_iff.2 h⟩

theorem getB_mem {bs : List BS} (h : Ok bs) {s : BS} (hs : s ∈ bs) {i : Int} (h0 : 0 ≤ i) (h7 : i ≤ 7) : getB bs s.name i = ((s.bl[i.toNat]?).getD [], 0) := by
  obtain ⟨e1, e2⟩ := at_mem (pw_srt h.2.1) hs
  unfold getB
  rw [if_neg (by simp [(ok_ok h).1]; omega), if_neg (by simp [e2]), e1]
theorem getB_some {bs : List BS} (h : Ok bs) {x : List UInt8} {i : Int} (h0 : 0 ≤ i) (h7 : i ≤ 7) (hd : (getB bs x i).2 = 0) : ∃ s ∈ bs, s.name = x ∧ (getB bs x i).1 = (s.bl[i.toNat]?).getD [] := by
  unfold getB at hd ⊢
  rw [if_neg (by simp [(ok_ok h).1]; omega)] at hd ⊢
  cases ha : atB bs x with
  | false => rw [if_pos ha] at hd; simp at hd
  | true =>
    rw [if_neg (by simp [ha])] at hd ⊢
    obtain ⟨u, hu, hun⟩ := atB_some ha
    rw [hu]
    exact ⟨u, List.mem_of_getElem? hu, hun, rfl⟩

theorem put_get {bs : List BS} {o : BO} {x : List BS} (h : Ok bs) (hd : Done bs o x) (hk : o.kind = 3) (hB : ∀ b ∈ bs, b.bl.length = 8) : getB x o.a o.i = (o.text, 0) := by
  have hx := done_ok h hd
  cases hd with
  | put k t h1 h2 h3 h4 h5 h6 h7 =>
    have hk := (List.getElem?_eq_some_iff.1 h2).1
    have := getB_mem hx (s := { t with bl := t.bl.set o.i.toNat o.text }) (List.mem_set hk _) h5 (by omega)
    rw [← h3]
    simp only at this
    rw [this, List.getElem?_set_self (by rw [hB t (List.mem_of_getElem? h2)]; omega)]
    rfl
  | _ => omega

/-- What an operation leaves of a set. -/
theorem kept {bs : List BS} {o : BO} {x : List BS} (h : Ok bs) (hd : Done bs o x) {s u : BS} (hs : s ∈ bs) (hu : u ∈ x) (he : u.name = s.name) : u = s ∨ (s.kind = 1 ∧ s.name = o.a) := by
  have hS := pw_srt h.2.1
  have hset : ∀ (k : Nat) (t : BS) (bl : List (List UInt8)), bs[k]? = some t → t.kind = 1 → t.name = o.a → u ∈ bs.set k { t with bl := bl } → u = s ∨ (s.kind = 1 ∧ s.name = o.a) := fun k t bl h1 h2 h3 hu => by
    rcases List.mem_or_eq_of_mem_set hu with hu | rfl
    · exact .inl (mem_inj hS hu hs he)
    · have := mem_inj hS (List.mem_of_getElem? h1) hs he
      subst this; exact .inr ⟨h2, h3⟩
  cases hd with
  | new q h1 h2 h3 h4 h5 h6 h7 h8 =>
    rcases ins_mem.1 hu with rfl | hu
    · exact absurd he.symm (at_none hS h7 s hs)
    · exact .inl (mem_inj hS hu hs he)
  | twin q t h1 h2 h3 h4 h5 h6 h7 h8 h9 h10 h11 h12 =>
    rcases ins_mem.1 hu with rfl | hu
    · exact absurd he.symm (at_none hS h11 s hs)
    · exact .inl (mem_inj hS hu hs he)
  | kill k t h1 h2 h3 h4 => exact .inl (mem_inj hS (mem_del hu) hs he)
  | put k t h1 h2 h3 h4 h5 h6 h7 => exact hset k t _ h2 h4 h3 hu
  | back k t v h1 h2 h3 h4 h5 h6 h7 => exact hset k t _ h2 h4 h3 hu

/-- A set and its twin. -/
theorem twins {bs : List BS} {o : BO} {x : List BS} (hd : Done bs o x) (hk : 4 ≤ o.kind) : ∃ s ∈ x, ∃ t ∈ x, s.name = o.a ∧ t.name = o.b ∧ s.bl = t.bl := by
  cases hd with
  | twin s t h1 h2 h3 h4 h5 h6 h7 h8 h9 h10 h11 h12 => exact ⟨t, ins_mem.2 (.inr h3), s, ins_mem.2 (.inl rfl), h4, h2, h6.symm⟩
  | back k t u h1 h2 h3 h4 h5 h6 h7 =>
    have hk := (List.getElem?_eq_some_iff.1 h2).1
    refine ⟨{ t with bl := u.bl }, List.mem_set hk _, u, ?_, h3, h6, rfl⟩
    obtain ⟨i, hi, e⟩ := List.mem_iff_getElem.1 h5
    rw [List.mem_iff_getElem]
    have hik : k ≠ i := by
      rintro rfl
      rw [List.getElem?_eq_getElem hi, e] at h2
      injection h2 with h2; subst h2; omega
    exact ⟨i, by simpa using hi, by rw [List.getElem_set_ne hik]; exact e⟩
  | _ => omega

theorem rt_frm {bs : List BS} {s : BS} (h : Rt bs s) : s.frm = [] ∨ ∃ t ∈ bs, t.name = s.frm := by
  cases h with
  | root _ h1 h2 => exact .inl h1
  | step _ t h1 h2 h3 h4 h5 => exact .inr ⟨t, h2, h3⟩

def killO (name : List UInt8) : BO := ⟨2, name, [], 0, []⟩
theorem doB_kill {bs : List BS} (h : Ok bs) {k : Nat} {s : BS} (hs : bs[k]? = some s) : doB bs (killO s.name) = killB bs k := by
  obtain ⟨e1, e2⟩ := atP_of (pw_srt h.2.1) hs
  unfold doB killO
  simp only
  rw [if_neg (by omega), if_neg (by omega), if_neg (by simp [e2]), e1, hs]
  simp

theorem atP_le (bs : List BS) (x : List UInt8) : atP bs x ≤ bs.length := (List.takeWhile_sublist _).length_le

/-- A set that has just been made can be killed: nothing is left of it. -/
theorem made_kill {bs : List BS} {o : BO} {x : List BS} (h : Ok bs) (hd : Done bs o x) (hk : o.kind = 1 ∨ o.kind = 4 ∨ o.kind = 5) :
    doB x (killO (if o.kind = 1 then o.a else o.b)) = (bs, 0) := by
  have hx := done_ok h hd
  have key : ∀ s : BS, x = insB bs s → nameB s.name = true → atB bs s.name = false → s.frm ≠ s.name → doB x (killO s.name) = (bs, 0) := fun s e h1 h2 h3 => by
    subst e
    have hp := atP_le bs s.name
    have hat : (insB bs s)[atP bs s.name]? = some s := by
      unfold insB
      rw [List.getElem?_append_right (by simp; omega)]
      simp [Nat.min_eq_left hp]
    rw [doB_kill hx hat]
    unfold killB
    rw [hat]
    simp only
    have hnf : ¬ ((insB bs s).any fun b => b.frm == s.name) = true := by
      rw [List.any_eq_true]
      rintro ⟨b, hb, hbe⟩
      simp only [beq_iff_eq] at hbe
      rcases ins_mem.1 hb with rfl | hb
      · exact h3 hbe
      · rcases rt_frm (h.2.2 b hb).2 with h0 | ⟨t, ht, hte⟩
        · exact name_ne h1 (hbe ▸ h0)
        · exact at_none (pw_srt h.2.1) h2 t ht (hte.trans hbe)
    rw [if_neg hnf]
    unfold insB
    have e1 : (bs.take (atP bs s.name)).length = atP bs s.name := by simp [Nat.min_eq_left hp]
    rw [show atP bs s.name + 1 = (bs.take (atP bs s.name)).length + 1 by rw [e1], List.drop_length_add_append]
    rw [List.take_left' e1]
    simp [List.take_append_drop]
  cases hd with
  | new s h1 h2 h3 h4 h5 h6 h7 h8 =>
    rw [if_pos h1, ← h2]
    exact key s rfl h6 h7 (by rw [h4]; exact (name_ne h6).symm)
  | twin s t h1 h2 h3 h4 h5 h6 h7 h8 h9 h10 h11 h12 =>
    rw [if_neg (by omega), ← h2]
    exact key s rfl h10 h11 (by rw [h5]; exact at_none (pw_srt h.2.1) h11 t h3)
  | _ => omega
end Go.Av.F
end

section
namespace Go.Av.F
open Go Go.Av
set_option linter.unusedSimpArgs false
set_option linter.unusedVariables false

/-- What BookDo gives, as a plain value. -/
def resB (bs : List BS) (o : BO) : List BS × Int := if bookOkB bs = true then doB bs o else ([], 5)
def bkP (res : List BS × Int) (r : AV) (L' : List (Nat × Ob)) : Prop := r = .tup [bk res.1, .int .i64 res.2] ∧ L' = []

theorem clR_rows : ∀ bs : List BS, clR (bs.map BS.row) = true
  | [] => rfl
  | a :: r => by
    have := clR_rows r
    simp only [clR, List.map_cons, List.all_cons, Bool.and_eq_true] at this ⊢
    refine ⟨?_, this⟩
    simp [BS.row, clL, clL_strs, clA]

theorem pureC {f : Nat} {args : List AV} {xs : List Nat} {bs : List BS} {o : BO} (h : ACall Go.Proofs.Tryd.prog f args [] (bkN xs (bookOkB bs) (doB bs o))) : ACall Go.Proofs.Tryd.prog f args [] (bkP (resB bs o)) := by
  unfold resB
  cases h1 : bookOkB bs with
  | false =>
    rw [h1] at h
    refine h.imp ?_
    rintro r L' hr
    simp only [bkN, Bool.false_eq_true, if_false] at hr
    obtain ⟨rfl, rfl⟩ := hr
    exact ⟨_, impA_tup2 (impA_agg1 (impA_nils 11)) (impA_refl _), rfl, rfl⟩
  | true =>
    rw [h1] at h
    refine h.frz ?_
    rintro r L' hr
    simp only [bkN, if_true] at hr
    obtain ⟨id, _, rfl, rfl⟩ := hr
    refine ⟨id, bkOb (doB bs o).1, rfl, clR_rows _, ?_, rfl⟩
    simp [bk, bkOb]
theorem implDoC (bs : List BS) (o : BO) (hb : BkG bs) (hl : bs.length < 100000) (ho : OpG o) : ACall Go.Proofs.Tryd.prog 16 [bk bs, .agg (BO.row o)] [] (bkP (resB bs o)) :=
  pureC (xs := [903]) (ok_eq bs ▸ ibookDoC bs o hl (fun b h => (hb b h).1) (fun b h => by have := (hb b h).2.1; omega) ⟨by have := ho.1; omega, by have := ho.2; omega⟩)
theorem specDoC (bs : List BS) (o : BO) (hb : BkG bs) (hl : bs.length < 100000) (ho : OpG o) : ACall Go.Proofs.Tryd.prog 17 [bk bs, .agg (BO.row o)] [] (bkP (resB bs o)) :=
  pureC (xs := [901, 902]) (sbookDoC bs o (by omega) (fun b h => (hb b h).1) (fun b h => by have := (hb b h).2.1; omega) ⟨by have := ho.1; omega, by have := ho.2; omega⟩)
theorem implOkC (bs : List BS) (hb : BkG bs) (hl : bs.length < 100000) : ACall Go.Proofs.Tryd.prog 21 [bk bs] [] (fun r L' => r = .bool (bookOkB bs) ∧ L' = []) :=
  ok_eq bs ▸ ibookOkC bs (by omega) (fun b h => (hb b h).1) (fun b h => by have := (hb b h).2.1; omega)
theorem specOkC (bs : List BS) (hb : BkG bs) (hl : bs.length < 100000) : ACall Go.Proofs.Tryd.prog 18 [bk bs] [] (fun r L' => r = .bool (bookOkB bs) ∧ L' = []) :=
  bookOkC bs (by omega) (fun b h => (hb b h).1) (fun b h => by have := (hb b h).2.1; omega)
theorem implGetC (bs : List BS) (name : List UInt8) (i : Int) (hb : BkG bs) (hl : bs.length < 100000) :
    ACall Go.Proofs.Tryd.prog 19 [bk bs, .str name, .int .i64 i] [] (fun r L' => r = .tup [.str (getB bs name i).1, .int .i64 (getB bs name i).2] ∧ L' = []) :=
  igetC bs name i hl (fun b h => (hb b h).1) (fun b h => by have := (hb b h).2.1; omega)
theorem implSameC (xs bs : List BS) (hx : BkG xs) (hb : BkG bs) (hl : xs.length < 100000) (hl2 : bs.length < 100000) :
    ACall Go.Proofs.Tryd.prog 20 [bk xs, bk bs] [] (fun r L' => r = .bool (xs == bs) ∧ L' = []) :=
  isameC xs bs (by omega) (by omega) (fun b h => (hx b h).1) (fun b h => (hb b h).1)
def drawP (r : AV) : Prop := ∃ (b : List BS) (o : BO), BkG b ∧ b.length ≤ 100 ∧ OpG o ∧ r = .tup [bk b, .agg (BO.row o)]
theorem drawPC (code : List UInt8) (hl : code.length < 4611686018427387904) : ACall Go.Proofs.Tryd.prog 15 [.lst 1 (code.map u8row)] [] (fun r L' => drawP r ∧ clA r = true ∧ L' = []) :=
  (drawC code hl).mono fun r L' ⟨b, o, h1, h2, h3, h4, h5⟩ => ⟨⟨b, o, h1, h2, h3, h4⟩, by rw [h4]; simp [bk, BO.row, clA, clL], h5⟩
theorem resB_gd {bs : List BS} {o : BO} (h : BkG bs) (ho : OpG o) : BkG (resB bs o).1 := by
  unfold resB; split
  · exact doB_gd h ho
  · simp [BkG]
theorem resB_len (bs : List BS) (o : BO) : (resB bs o).1.length ≤ bs.length + 1 := by
  unfold resB; split
  · exact doB_len bs o
  · simp
end Go.Av.F
end

section
namespace Go.Av
open Go.RowKit
set_option linter.unusedSimpArgs false
set_option linter.unusedVariables false

/-- A slice of numbers that came in: nil, or a row of cells. -/
def IsRow (k : IntKind) (w : World) (a : Option Addr) (len cap : Nat) (zs : List Int) : Prop :=
  (a = none ∧ len = 0 ∧ cap = 0 ∧ zs = []) ∨
  ∃ x, a = some x ∧ len ≤ cap ∧ cap ≤ maxLen ∧ zs.length = cap ∧ (∀ i, i < zs.length → w.cell? (x.add i) = some (.int k (zs.getD i 0))) ∧ ∀ n ∈ zs, (Lit.int k n).wf = true

/-- All that is there. -/
def Old (w : World) (p : Addr) : Prop := p.block < w.heap.size
theorem old_cell {w : World} {p : Addr} {v : Value} (h : w.cell? p = some v) : Old w p := World.block_lt_of_cell? w _ h

theorem u8_fit {n : Int} (h : (Lit.int .u8 n).wf = true) : ((UInt8.ofNat n.toNat).toNat : Int) = n := by
  have hn : 0 ≤ n ∧ n ≤ 255 := by simpa [Lit.wf, IntKind.min, IntKind.max, IntKind.signed, IntKind.bits] using h
  simp
  omega

theorem lst_rel {w : World} {γ : Gm} {a : Option Addr} {len cap : Nat} {zs : List Int} (h : IsRow .u8 w a len cap zs) :
    ∃ code : List UInt8, code.length = len ∧ len ≤ maxLen ∧ AVRel w (Old w) γ (.lst 1 (code.map F.u8row)) (.slice a len cap) := by
  rcases h with ⟨rfl, rfl, rfl, rfl⟩ | ⟨x, rfl, hl, hm, hz, hcell, hwz⟩
  · exact ⟨[], rfl, Nat.zero_le _, .lst _ 1 [] none 0 (fun _ _ => undef) (Nat.le_refl _) (fun h => absurd rfl h) (fun i hi => by simp at hi) (fun i j hi => by simp at hi)⟩
  · refine ⟨(zs.take len).map fun n => UInt8.ofNat n.toNat, by simp; omega, by omega, ?_⟩
    have hlen : (((zs.take len).map fun n => UInt8.ofNat n.toNat).map F.u8row).length = len := by simp; omega
    have key := AVRel.lst (w := w) (Z := Old w) γ 1 (((zs.take len).map fun n => UInt8.ofNat n.toNat).map F.u8row) (some x) cap (fun i _ => .int .u8 (zs.getD i 0)) (by omega)
      (fun hne => ?_) (fun i hi => ?_) (fun i j hi hj => ?_)
    · rw [hlen] at key; exact key
    · have h0 : 0 < len := by
        rcases Nat.eq_zero_or_pos len with h | h
        · subst h; simp at hne
        · exact h
      have hs : x.spot = none := by
        have := hcell 0 (by omega)
        simpa [Addr.add] using World.cell?_spot this
      have hc : ∀ i j, i < len → j < 1 → w.cell? (x.at (i * 1 + j)) = some (.int .u8 (zs.getD i 0)) := fun i j hi hj => by
        have h1 := hcell i (by omega)
        have : x.at (i * 1 + j) = x.add i := by
          obtain ⟨b, o, s⟩ := x
          simp only at hs; subst hs
          obtain rfl : j = 0 := by omega
          simp only [Addr.at, Addr.add]
          split
          · rename_i h0; subst h0; simp
          · simp
        rw [this]; exact h1
      rw [hlen]
      exact ⟨x, rfl, fun i j hi hj => old_cell (hc i j hi hj), hs, hc⟩
    · have hi' : i < len := by rw [hlen] at hi; exact hi
      have hiz : i < zs.length := by omega
      simp only [List.getD, List.getElem?_map, List.getElem?_take_of_lt hi', List.getElem?_eq_getElem hiz, Option.map_some, Option.getD_some]
      rfl
    · have hi' : i < len := by rw [hlen] at hi; exact hi
      have hj0 : j = 0 := by omega
      subst hj0
      have hiz : i < zs.length := by omega
      have e : ((((zs.take len).map fun n => UInt8.ofNat n.toNat).map F.u8row).getD i []).getD 0 .top = .int .u8 (zs.getD i 0) := by
        simp only [List.getD, List.getElem?_map, List.getElem?_take_of_lt hi', List.getElem?_eq_getElem hiz, Option.map_some, Option.getD_some, F.u8row, List.getElem?_cons_zero]
        rw [u8_fit (hwz _ (List.getElem_mem hiz))]
      rw [e]
      exact .int _ _ _

theorem fr_below {F : Addr → Prop} {w w' : World} (h : Fr F w w') (hF : ∀ p, ¬ F p) : Below w.heap.size w w' := by
  refine ⟨h.os, h.tape, h.output, h.size, fun k hk => ?_⟩
  rcases h.blk k hk with e | ⟨c, c', ty, fz, h1, h2, h3, h4⟩
  · exact e
  · have : c' = c := Array.ext_getElem? fun i => h4 i (hF _)
    rw [h1, h2, this]

/-- A call that is handed no objects, as the row wants it. -/
theorem calls_below {P : Program} {f : Nat} {args : List AV} {v : AV} {u : Value} (hb : hasBody P f = true) {W : World} {vs : Array Value} (hv : CRel W (Old W) noG args vs)
    (hu : ∀ (w : World) (Z : Addr → Prop) (γ : Gm) (x : Value), AVRel w Z γ v x → x = u) (hC : ACall P f args [] (fun r L' => r = v ∧ L' = [])) :
    Calls P f vs W fun e w' => e = .returned u ∧ Below W.heap.size W w' := by
  have hno : ∀ p, ¬ Foot noG (hpOf []) p := fun p hp => by
    obtain ⟨id, o, r, h, _⟩ := hp
    simp at h
  have h := hC W (Old W) noG vs hv ⟨fun i x hx => by simp at hx, fun i j o1 o2 r1 r2 hne g1 => by simp at g1, fun i x rg hx => by simp at hx, fun p hp => hp⟩ (fun id r hr => by simp [noG] at hr)
  refine (h.calls hb).mono ?_
  rintro e w' ⟨x, r, L', Z', γ', rfl, ⟨rfl, rfl⟩, hx, _, hfr, _⟩
  exact ⟨by rw [hu _ _ _ _ hx], fr_below hfr hno⟩
theorem bool_only (b : Bool) : ∀ (w : World) (Z : Addr → Prop) (γ : Gm) (x : Value), AVRel w Z γ (.bool b) x → x = .bool b := fun w Z γ x h => by cases h; rfl
end Go.Av
end

section
namespace Go.Proofs.YtiidedhlnlaalaaDoor
open Go.ChangeShapes Go.WideShapes Go.ChangeAt Go.RowKit
set_option linter.unusedVariables false

/-! ### Closed facts of the program, each a theorem of its own -/
theorem fact_own : ownKnob Tryd.prog.godebug = none := by kernel_rfl
theorem fact_laidOut : laidOutB Tryd.prog = true := by kernel_rfl
theorem fact_mapsRowed : mapsRowed Tryd.prog = true := by kernel_rfl
theorem fact_heard : Tryd.prog.stopsHeard = true := by kernel_rfl
theorem fact_mayEnter : Tryd.prog.mayEnter = true := by kernel_rfl
theorem fact_main : Tryd.pinned.checked.prog.mainIs = some (true, "2c87a6b6aad5d6925286b7b8337d65ec16c4c216255dd393ccb0f40eda3f2dd0".toList) := by kernel_rfl
theorem fact_looks : true = Tryd.prog.looks [] := by kernel_rfl
end Go.Proofs.YtiidedhlnlaalaaDoor
end

section
namespace Go.Av.F
open Go Go.Av
set_option linter.unusedSimpArgs false
set_option linter.unusedVariables false
set_option maxRecDepth 100000
attribute [local simp] tt3 tt4 tt9 tt5 tt22 tt25 tt23 tt35 tt33 tt27 tt42 tt54

theorem fnBookOkC (code : List UInt8) : ACall Go.Proofs.Tryd.prog 5 [.lst 1 (code.map u8row)] [] (fun r L' => r = .bool true ∧ L' = []) := by
  apply vc5 (by simp) (by simp)
  simp [ac5]
  intro h0
  refine callA_ex en15 (drawPC code (by omega)) (by simp) ?_
  rintro r ⟨b, o, hb, hbl, ho, rfl⟩
  have hx := resB_gd hb ho
  have hxl := resB_len b o
  simp [bk, BO.row]
  refine callA_val en16 (implDoC b o hb (by omega) ho) (by simp [bk, BO.row]) (by simp [bk, BO.row]) ?_
  simp [bk, BO.row]
  refine callA_val en17 (specDoC b o hb (by omega) ho) (by simp [bk, BO.row]) (by simp [bk, BO.row]) ?_
  simp [bk, BO.row]
  refine callA_val en20 (implSameC _ _ hx hx (by omega) (by omega)) (by simp [bk]) (by simp) ?_
  simp
  refine callA_val en21 (implOkC b hb (by omega)) (by simp [bk]) (by simp) ?_
  simp
  refine callA_val en18 (specOkC b hb (by omega)) (by simp [bk]) (by simp) ?_
  simp
  refine callA_val en18 (specOkC b hb (by omega)) (by simp [bk]) (by simp) ?_
  cases hok : bookOkB b with
  | false => simp [resB, hok]
  | true =>
    simp
    refine callA_val en19 (implGetC _ o.a o.i hx (by omega)) (by simp [bk]) (by simp) ?_
    simp
    refine callA_val en21 (implOkC _ hx (by omega)) (by simp [bk]) (by simp) ?_
    have hO := okB_iff.1 hok
    rcases doB_done b o with ⟨c, hc, he⟩ | ⟨x, hd, he⟩
    · have e1 : resB b o = (b, c) := by unfold resB; rw [if_pos hok, he]
      simp [e1, hok, hc]
      refine callA_val en20 (implSameC b b hb hb (by omega) (by omega)) (by simp [bk]) (by simp) ?_
      simp [hc]
    · have e1 : resB b o = (x, 0) := by unfold resB; rw [if_pos hok, he]
      have hxo := (ok_ok (done_ok hO hd)).2
      have hg : o.kind = 3 → getB x o.a o.i = (o.text, 0) := fun hk => put_get hO hd hk fun t ht => (hb t ht).1
      simp [e1, hxo]
      by_cases hk : o.kind = 3
      · simp [hk, hg hk]
      · simp [hk]
end Go.Av.F
end
