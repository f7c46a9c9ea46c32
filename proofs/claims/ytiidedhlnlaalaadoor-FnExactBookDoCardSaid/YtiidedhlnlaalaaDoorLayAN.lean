/- Lemmas for the proof, no statement of the seat; no conditions. -/
import Derived.Test.YtiidedhlnlaalaaDoorLayAM
section
namespace Go.Av
open Go.RowKit
set_option linter.unusedSimpArgs false
set_option linter.unusedVariables false
section
variable {P : Program} {E : Env} {s : S} {Q : Exit → S → Prop} {K : S → Prop} {d : Option Nat}
theorem hpOf_cons_ne {id i : Nat} {o x : Ob} {L : List (Nat × Ob)} (hid : id ∉ L.map (·.1)) (h : hpOf L i = some x) : i ≠ id ∧ hpOf ((id, o) :: L) i = some x := by
  have hm := hpOf_mem h
  have : i ≠ id := by rintro rfl; exact hid (List.mem_map.2 ⟨_, hm, rfl⟩)
  exact ⟨this, by simp [this, h]⟩
theorem ACall.frz1 {f : Nat} {args : List AV} {R R' : AV → List (Nat × Ob) → Prop} (h : ACall P f args [] R)
    (hr : ∀ r L', R r L' → R' r L' ∨ ∃ id o L2, L' = (id, o) :: L2 ∧ id ∉ L2.map (·.1) ∧ clR o.els = true ∧ (∀ x ∈ L2, clR x.2.els = true) ∧ R' (Av.frz id o r) L2) : ACall P f args [] R' := by
  intro w Z γ vs hv hh hg
  refine (h w Z γ vs hv hh hg).mono ?_
  rintro e w' ⟨v, r, L', Z', γ', h1, h2, h3, h4, h5, h6, h7, h8, h9⟩
  rcases hr r L' h2 with hk | ⟨id, o, L2, rfl, hid, hcl, hcl2, hR⟩
  · exact ⟨v, r, L', Z', γ', h1, hk, h3, h4, h5, h6, h7, h8, h9⟩
  obtain ⟨rg, hrg, hor⟩ := h4.obj id o (by simp)
  have hup : ∀ {i x}, hpOf L2 i = some x → i ≠ id ∧ hpOf ((id, o) :: L2) i = some x := fun h => hpOf_cons_ne hid h
  refine ⟨v, Av.frz id o r, L2, fun p => Z' p ∨ rg.has p, γ', h1, hR, h3.frz hrg hor hcl, ⟨fun i x hx => ?_, fun i j o1 o2 r1 r2 hne g1 g2 => ?_, fun i x r' hx hr' p hp => ?_, fun p hp => ?_⟩, h5, fun p hp => .inl (h6 p hp), fun p hp => ?_, fun i x r' hx => ?_, h9⟩
  · obtain ⟨hi, hx'⟩ := hup hx
    obtain ⟨r', hr', hor'⟩ := h4.obj i x hx'
    refine ⟨r', hr', hor'.spot, hor'.sz, hor'.fit, hor'.len, hor'.live, fun e j he hj => ?_, hor'.pln⟩
    obtain ⟨u, hu, hru⟩ := hor'.cell e j he hj
    exact ⟨u, hu, hru.world (fun b hb => .inl hb) (fun p _ => rfl)⟩
  · exact h4.dis i j o1 o2 r1 r2 hne (hup g1).2 (hup g2).2
  · obtain ⟨hi, hx'⟩ := hup hx
    rintro (hz | hz)
    · exact h4.zon i x r' hx' hr' p hp hz
    · exact Rg.apart_has (h4.dis i id x o r' rg hi hx' (by simp) hr' hrg) hp hz
  · rcases hp with hp | hp
    · exact h4.zlt p hp
    · obtain ⟨p1, p2, p3, p4⟩ := hp
      obtain ⟨⟨u, hu⟩, _⟩ := hor.live (p.off - rg.A.off) (by omega)
      have := World.block_lt_of_cell? w' _ hu
      simp only [at_block] at this
      omega
  · rcases hp with hp | hp
    · exact h7 p hp
    · rcases h8 id o rg (by simp) hrg p hp with h | ⟨i, x, r', hx, _⟩
      · exact .inr h
      · simp at hx
  · exact h8 i x r' (hup hx).2
def frzAll : List (Nat × Ob) → AV → AV
  | [], r => r
  | (id, o) :: L, r => frzAll L (Av.frz id o r)
theorem ACall.frzs {f : Nat} {args : List AV} {R : AV → List (Nat × Ob) → Prop} {R' : AV → Prop} (h : ACall P f args [] R)
    (hr : ∀ r L', R r L' → L'.length ≤ 20 ∧ (L'.map (·.1)).Nodup ∧ (∀ x ∈ L', clR x.2.els = true) ∧ ∃ v, impA (frzAll L' r) v ∧ R' v) : ACall P f args [] (fun r L' => R' r ∧ L' = []) := by
  have key : ∀ (n : Nat) (R : AV → List (Nat × Ob) → Prop), ACall P f args [] R →
      (∀ r L', R r L' → L'.length ≤ n ∧ (L'.map (·.1)).Nodup ∧ (∀ x ∈ L', clR x.2.els = true) ∧ ∃ v, impA (frzAll L' r) v ∧ R' v) → ACall P f args [] (fun r L' => R' r ∧ L' = []) := by
    intro n
    induction n with
    | zero =>
      intro R h hr
      refine h.imp fun r L' hR => ?_
      obtain ⟨hl, _, _, v, hi, hv⟩ := hr r L' hR
      have : L' = [] := List.eq_nil_of_length_eq_zero (by omega)
      subst this
      exact ⟨v, hi, hv, rfl⟩
    | succ n ih =>
      intro R h hr
      refine ih (fun r L' => L'.length ≤ n ∧ (L'.map (·.1)).Nodup ∧ (∀ x ∈ L', clR x.2.els = true) ∧ ∃ v, impA (frzAll L' r) v ∧ R' v) (h.frz1 fun r L' hR => ?_) fun r L' h => h
      obtain ⟨hl, hn, hc, v, hi, hv⟩ := hr r L' hR
      cases L' with
      | nil => exact .inl ⟨by simp, hn, hc, v, hi, hv⟩
      | cons x L2 =>
        obtain ⟨id, o⟩ := x
        simp only [List.map_cons, List.nodup_cons, List.mem_cons, List.length_cons] at hn hc hl
        exact .inr ⟨id, o, L2, rfl, hn.1, hc _ (.inl rfl), fun x hx => hc x (.inr hx), by omega, hn.2, fun x hx => hc x (.inr hx), v, hi, hv⟩
  exact key 20 R h hr
theorem CV.of_frz {f : Nat} {args : List AV} {v : AV} {R : AV → List (Nat × Ob) → Prop} (h : ACall P f args [] R)
    (hr : ∀ r L', R r L' → L'.length ≤ 20 ∧ (L'.map (·.1)).Nodup ∧ (∀ x ∈ L', clR x.2.els = true) ∧ impA (frzAll L' r) v) (he : enters P f = true := by kernel_rfl) (hca : clL args = true := by simp) (hcv : clA v = true := by simp) : CV P f args v :=
  ⟨he, hca, hcv, ACall.frzs (R' := fun r => r = v) h fun r L' hR => by
    obtain ⟨h1, h2, h3, h4⟩ := hr r L' hR
    exact ⟨h1, h2, h3, v, h4, rfl⟩⟩
theorem CV.view {f : Nat} {args argsC : List AV} {v : AV} (h : CV P f argsC v) (h1 : mtL s.h [] (plOf []) argsC args) (hK : K ⟨putA s.t d v, s.h, s.u⟩) (hn : noA v = true := by simp) : callA P f args d s K := callA_vv h.en h.c h1 hn h.cv hK
structure CW (P : Program) (f : Nat) (args : List AV) (o : Ob) (v : AV) : Prop where
  en : enters P f = true
  cv : clA v = true
  co : clR o.els = true
  c : ACall P f args [(1000, o)] (fun r L' => r = v ∧ L' = [(1000, o)])
theorem renOb_cl {ρ : Nat → Option Plc} {o : Ob} (h : clR o.els = true) : renOb ρ o = o := by
  unfold renOb
  have : o.els.map (renL ρ) = o.els := by
    conv => rhs; rw [← List.map_id o.els]
    refine List.map_congr_left fun r hr => ?_
    exact renL_closed.renL_closedL ρ r (List.all_eq_true.1 h r hr)
  rw [this]
theorem CW.call {f : Nat} {args args' : List AV} {o : Ob} {v : AV} (h : CW P f args o v) (id : Nat) (hid : s.h id = some o) (hm : mtL (fun _ => none) [id] (plOf [(1000, .whole id)]) args args') (hK : K ⟨putA s.t d v, s.h, s.u⟩) : callA P f args' d s K := by
  refine callA_wh [(1000, .whole id)] h.en h.c hm (by simp) ⟨⟨o, hid, rfl, rowsMt_cl rfl h.co⟩, trivial⟩ (by simp) (by simp [hid]) ?_
  rintro r L' ⟨rfl, rfl⟩
  refine ⟨[], ⟨by simp, by simp, by simp, by simp, by simp⟩, ?_⟩
  have e1 : afterS s [(1000, .whole id)] [] d r [(1000, o)] = ⟨putA s.t d r, s.h, s.u⟩ := by
    simp only [afterS, putH, putH1, ren2, plOf, if_true, remH, List.map_nil, Us.app_nil, renL_closed _ _ h.cv, renOb_cl h.co]
    congr 1
    funext i
    simp only [upd]
    split
    · rename_i hi; rw [hi, hid]
    · rfl
  rw [e1]; exact hK
end
end Go.Av
end
