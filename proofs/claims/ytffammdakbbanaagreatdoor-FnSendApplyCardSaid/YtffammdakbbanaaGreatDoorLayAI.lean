/- Lemmas for the proof, no statement of the seat; no conditions. -/
import Derived.Test.YtffammdakbbanaaGreatDoorLayAH
section
namespace Go.Av
open Go.RowKit
set_option linter.unusedSimpArgs false
set_option linter.unusedVariables false
section
variable {P : Program} {E : Env} {s : S} {Q : Exit → S → Prop} {K : S → Prop} {d : Option Nat}
theorem hpOf_cons_ne {id i : Nat} {o x : Ob} {L : List (Nat × Ob)} (hid : id ∉ L.map (·.1)) (h : hpOf L i = some x) : i ≠ id ∧ hpOf ((id, o) :: L) i = some x := by
  have hm := hpOf_mem h
  have : i ≠ id := by rintro rfl; exact hid (List.mem_map.2 ⟨_, hm, rfl⟩)
  exact ⟨this, by simp [this, h]⟩
theorem ACall.frz1 {f : Nat} {args : List AV} {R R' : AV → List (Nat × Ob) → Prop} (h : ACall P f args [] R)
    (hr : ∀ r L', R r L' → R' r L' ∨ ∃ id o L2, L' = (id, o) :: L2 ∧ id ∉ L2.map (·.1) ∧ clR o.els = true ∧ (∀ x ∈ L2, clR x.2.els = true) ∧ R' (Av.frz id o r) L2) : ACall P f args [] R' := by
  intro w Z γ vs hv hh hg
  refine (h w Z γ vs hv hh hg).mono ?_
  rintro e w' ⟨v, r, L', Z', γ', h1, h2, h3, h4, h5, h6, h7, h8, h9⟩
  rcases hr r L' h2 with hk | ⟨id, o, L2, rfl, hid, hcl, hcl2, hR⟩
  · exact ⟨v, r, L', Z', γ', h1, hk, h3, h4, h5, h6, h7, h8, h9⟩
  obtain ⟨rg, hrg, hor⟩ := h4.obj id o (by simp)
  have hup : ∀ {i x}, hpOf L2 i = some x → i ≠ id ∧ hpOf ((id, o) :: L2) i = some x := fun h => hpOf_cons_ne hid h
  refine ⟨v, Av.frz id o r, L2, fun p => Z' p ∨ rg.has p, γ', h1, hR, h3.frz hrg hor hcl, ⟨fun i x hx => ?_, fun i j o1 o2 r1 r2 hne g1 g2 => ?_, fun i x r' hx hr' p hp => ?_, fun p hp => ?_, h4.gl.world (fun _ h => .inl h) (fun _ _ => rfl)⟩, h5, fun p hp => .inl (h6 p hp), fun p hp => ?_, fun i x r' hx => ?_, h9⟩
  · obtain ⟨hi, hx'⟩ := hup hx
    obtain ⟨r', hr', hor'⟩ := h4.obj i x hx'
    refine ⟨r', hr', hor'.spot, hor'.sz, hor'.fit, hor'.len, hor'.live, fun e j he hj => ?_, hor'.pln⟩
    obtain ⟨u, hu, hru⟩ := hor'.cell e j he hj
    exact ⟨u, hu, hru.world (fun b hb => .inl hb) (fun p _ => rfl)⟩
  · exact h4.dis i j o1 o2 r1 r2 hne (hup g1).2 (hup g2).2
  · obtain ⟨hi, hx'⟩ := hup hx
    rintro (hz | hz)
    · exact h4.zon i x r' hx' hr' p hp hz
    · exact Rg.apart_has (h4.dis i id x o r' rg hi hx' (by simp) hr' hrg) hp hz
  · rcases hp with hp | hp
    · exact h4.zlt p hp
    · obtain ⟨p1, p2, p3, p4⟩ := hp
      obtain ⟨⟨u, hu⟩, _⟩ := hor.live (p.off - rg.A.off) (by omega)
      have := World.block_lt_of_cell? w' _ hu
      simp only [at_block] at this
      omega
  · rcases hp with hp | hp
    · exact h7 p hp
    · rcases h8 id o rg (by simp) hrg p hp with h | ⟨i, x, r', hx, _⟩
      · exact .inr h
      · simp at hx
  · exact h8 i x r' (hup hx).2
def frzAll : List (Nat × Ob) → AV → AV
  | [], r => r
  | (id, o) :: L, r => frzAll L (Av.frz id o r)
theorem ACall.frzs {f : Nat} {args : List AV} {R : AV → List (Nat × Ob) → Prop} {R' : AV → Prop} (h : ACall P f args [] R)
    (hr : ∀ r L', R r L' → L'.length ≤ 20 ∧ (L'.map (·.1)).Nodup ∧ (∀ x ∈ L', clR x.2.els = true) ∧ ∃ v, impA (frzAll L' r) v ∧ R' v) : ACall P f args [] (fun r L' => R' r ∧ L' = []) := by
  have key : ∀ (n : Nat) (R : AV → List (Nat × Ob) → Prop), ACall P f args [] R →
      (∀ r L', R r L' → L'.length ≤ n ∧ (L'.map (·.1)).Nodup ∧ (∀ x ∈ L', clR x.2.els = true) ∧ ∃ v, impA (frzAll L' r) v ∧ R' v) → ACall P f args [] (fun r L' => R' r ∧ L' = []) := by
    intro n
    induction n with
    | zero =>
      intro R h hr
      refine h.imp fun r L' hR => ?_
      obtain ⟨hl, _, _, v, hi, hv⟩ := hr r L' hR
      have : L' = [] := List.eq_nil_of_length_eq_zero (by omega)
      subst this
      exact ⟨v, hi, hv, rfl⟩
    | succ n ih =>
      intro R h hr
      refine ih (fun r L' => L'.length ≤ n ∧ (L'.map (·.1)).Nodup ∧ (∀ x ∈ L', clR x.2.els = true) ∧ ∃ v, impA (frzAll L' r) v ∧ R' v) (h.frz1 fun r L' hR => ?_) fun r L' h => h
      obtain ⟨hl, hn, hc, v, hi, hv⟩ := hr r L' hR
      cases L' with
      | nil => exact .inl ⟨by simp, hn, hc, v, hi, hv⟩
      | cons x L2 =>
        obtain ⟨id, o⟩ := x
        simp only [List.map_cons, List.nodup_cons, List.mem_cons, List.length_cons] at hn hc hl
        exact .inr ⟨id, o, L2, rfl, hn.1, hc _ (.inl rfl), fun x hx => hc x (.inr hx), by omega, hn.2, fun x hx => hc x (.inr hx), v, hi, hv⟩
  exact key 20 R h hr
theorem CV.of_frz {f : Nat} {args : List AV} {v : AV} {R : AV → List (Nat × Ob) → Prop} (h : ACall P f args [] R)
    (hr : ∀ r L', R r L' → L'.length ≤ 20 ∧ (L'.map (·.1)).Nodup ∧ (∀ x ∈ L', clR x.2.els = true) ∧ impA (frzAll L' r) v) (he : enters P f = true := by kernel_rfl) (hca : clL args = true := by simp) (hcv : clA v = true := by simp) : CV P f args v :=
  ⟨he, hca, hcv, ACall.frzs (R' := fun r => r = v) h fun r L' hR => by
    obtain ⟨h1, h2, h3, h4⟩ := hr r L' hR
    exact ⟨h1, h2, h3, v, h4, rfl⟩⟩
theorem CV.view {f : Nat} {args argsC : List AV} {v : AV} (h : CV P f argsC v) (h1 : mtL s.h [] (plOf []) argsC args) (hK : K ⟨putA s.t d v, s.h, s.u⟩) (hn : noA v = true := by simp) : callA P f args d s K := callA_vv h.en h.c h1 hn h.cv hK
structure CW (P : Program) (f : Nat) (args : List AV) (o : Ob) (v : AV) : Prop where
  en : enters P f = true
  cv : clA v = true
  co : clR o.els = true
  c : ACall P f args [(1000, o)] (fun r L' => r = v ∧ L' = [(1000, o)])
theorem renOb_cl {ρ : Nat → Option Plc} {o : Ob} (h : clR o.els = true) : renOb ρ o = o := by
  unfold renOb
  have : o.els.map (renL ρ) = o.els := by
    conv => rhs; rw [← List.map_id o.els]
    refine List.map_congr_left fun r hr => ?_
    exact renL_closed.renL_closedL ρ r (List.all_eq_true.1 h r hr)
  rw [this]
theorem CW.call {f : Nat} {args args' : List AV} {o : Ob} {v : AV} (h : CW P f args o v) (id : Nat) (hid : s.h id = some o) (hm : mtL (fun _ => none) [id] (plOf [(1000, .whole id)]) args args') (hK : K ⟨putA s.t d v, s.h, s.u⟩) : callA P f args' d s K := by
  refine callA_wh [(1000, .whole id)] h.en h.c hm (by simp) ⟨⟨o, hid, rfl, rowsMt_cl rfl h.co⟩, trivial⟩ (by simp) (by simp [hid]) ?_
  rintro r L' ⟨rfl, rfl⟩
  refine ⟨[], ⟨by simp, by simp, by simp, by simp, by simp⟩, ?_⟩
  have e1 : afterS s [(1000, .whole id)] [] d r [(1000, o)] = ⟨putA s.t d r, s.h, s.u⟩ := by
    simp only [afterS, putH, putH1, ren2, plOf, if_true, remH, List.map_nil, Us.app_nil, renL_closed _ _ h.cv, renOb_cl h.co]
    congr 1
    funext i
    simp only [upd]
    split
    · rename_i hi; rw [hi, hid]
    · rfl
  rw [e1]; exact hK
theorem takeS {α : Type} {l : List α} {x : α} {i : Nat} (h : l[i]? = some x) : l.take (i + 1) = l.take i ++ [x] := by
  rw [List.take_add_one, h]; rfl
def hdO (ins live : List Nat) (s : S) (up : List (Nat × AV)) (hp : List (Nat × Ob)) : S :=
  ⟨mkT (live.map fun i => (i, (getU up i).getD (s.t i))), hpOf hp, Us.of (ins ++ hp.map (·.1))⟩
attribute [simp] hdO
theorem ev_lo {a : ACode} {X : Type} (live : List Nat) (φ : List (Nat × Nat)) (up : X → List (Nat × AV)) (hp : X → List (Nat × Ob)) (meas : X → Nat) (good : X → Prop) (x0 : X)
    (hg : good x0) (round : ∀ x, good x → ev P E a (thenQ (nextX E live (fun x => hdO E.ins live s (up x) (hp x)) meas good x) Q) (hdO E.ins live s (up x) (hp x)))
    (h0 : canonOk E φ s := by simp) (he : canon E.ins live φ s = hdO E.ins live s (up x0) (hp x0) := by simp) : ev P E (.loop a) Q s :=
  ev_loopX live (fun x => hdO E.ins live s (up x) (hp x)) meas good x0 ⟨hg, φ, h0, he⟩ round
theorem ev_sw {a : ACode} {s' : S} (hw : SW E s s') (h : ev P E (.loop a) Q s') : ev P E (.loop a) Q s := va_pre hw h
end
end Go.Av
end
section
namespace Go.Av
open Go.RowKit
set_option linter.unusedSimpArgs false
set_option linter.unusedVariables false
theorem acv {P : Program} {f : Nat} {fn : Func} {b : Code} {ac : ACode} {n : Nat} {rs : List ResultVar} {args : List AV} {L : List (Nat × Ob)} {R : AV → List (Nat × Ob) → Prop} (hf : P.funcs[f]? = some fn) (pl : List (Nat × List Itm)) (hn : fn.ntmps = n) (hb : fn.body = some b)
    (hc : cp n pl b = some ac) (hr : fn.results.toList = rs)
    (h : VA P ⟨n, L.map (·.1)⟩ ac ⟨argT args, hpOf L, Us.of (L.map (·.1))⟩ (retQ P rs R)) (hk : planned pl fn = true := by kernel_rfl) (hbd : hasBody P f = true := by kernel_rfl) (ha : args.length ≤ n := by simp) (hL : (L.map (·.1)).Nodup := by simp) : ACall P f args L R :=
  acallA hbd n (colP pl b) rs hf (by rw [hb]; exact (cp_eq n pl (colP pl b) b (by rw [← hn]; unfold planned at hk; rw [hb] at hk; exact hk)).symm.trans hc) hn hr ha hL h
theorem below_cell {w w' : World} (h : Below w.heap.size w w') {p : Addr} (hp : p.block < w.heap.size) : w'.cell? p = w.cell? p := by
  simp only [World.cell?, h.block p.block hp]
theorem cv_of_calls {P : Program} {f : Nat} {args : List AV} {v : AV}
    (h : ∀ (w : World) (Z : Addr → Prop) (vs : Array Value), CRel w Z noG args vs → GlR w Z → (∀ p, Z p → p.block < w.heap.size) → Calls P f vs w fun e w' => ∃ u Z', e = .returned u ∧ AVRel w' Z' noG v u ∧ Below w.heap.size w w' ∧ (∀ p, Z p → Z' p) ∧ ∀ p, Z' p → Z p ∨ w.heap.size ≤ p.block ∧ p.block < w'.heap.size)
    (he : enters P f = true := by kernel_rfl) (hb : hasBody P f = true := by kernel_rfl) (hca : clL args = true := by simp) (hcv : clA v = true := by simp) : CV P f args v := by
  refine ⟨he, hca, hcv, fun w Z γ vs hv hh hg => .inl ⟨hb, (h w Z vs ⟨hv.1, fun j hj => (hv.2 j hj).closed (clL_getD _ _ hca)⟩ hh.gl hh.zlt).mono ?_⟩⟩
  rintro e w' ⟨u, Z', rfl, hr, hbl, h1, h2⟩
  refine ⟨u, v, [], Z', noG, rfl, ⟨rfl, rfl⟩, hr, ⟨fun i o ho => by simp at ho, fun i j o1 o2 r1 r2 _ g1 => by simp at g1, fun i o r ho => by simp at ho, fun p hp => ?_, hh.gl.world h1 fun p hp => below_cell hbl (hh.zlt p hp)⟩, .of_below hbl, h1, fun p hp => (h2 p hp).imp id And.left, fun i o r ho => by simp at ho, fun i o ho => by simp at ho⟩
  rcases h2 p hp with h | ⟨_, h⟩
  · exact Nat.lt_of_lt_of_le (hh.zlt p h) hbl.size
  · exact h
theorem cv_of_calls0 {P : Program} {f : Nat} {args : List AV} {v : AV}
    (h : ∀ (w : World) (Z : Addr → Prop) (vs : Array Value), CRel w Z noG args vs → GlR w Z → (∀ p, Z p → p.block < w.heap.size) → Calls P f vs w fun e w' => ∃ u, e = .returned u ∧ AVRel w' Z noG v u ∧ Below w.heap.size w w')
    (he : enters P f = true := by kernel_rfl) (hb : hasBody P f = true := by kernel_rfl) (hca : clL args = true := by simp) (hcv : clA v = true := by simp) : CV P f args v :=
  cv_of_calls (fun w Z vs h1 h2 h3 => (h w Z vs h1 h2 h3).mono fun e w' ⟨u, a, b, c⟩ => ⟨u, Z, a, b, c, fun _ h => h, fun _ h => .inl h⟩) he hb hca hcv
theorem crel1 {w : World} {Z : Addr → Prop} {γ : Gm} {a : AV} {vs : Array Value} (h : CRel w Z γ [a] vs) : ∃ x, vs = #[x] ∧ AVRel w Z γ a x := by
  obtain ⟨hs, hr⟩ := h
  have h0 := hr 0 (by simp)
  refine ⟨vs.getD 0 undef, ?_, by simpa using h0⟩
  apply Array.ext
  · simpa using hs
  · intro i h1 h2
    have : i = 0 := by simp at h2; omega
    subst this
    simp [Array.getD, h1]
theorem crel2 {w : World} {Z : Addr → Prop} {γ : Gm} {a b : AV} {vs : Array Value} (h : CRel w Z γ [a, b] vs) : ∃ x y, vs = #[x, y] ∧ AVRel w Z γ a x ∧ AVRel w Z γ b y := by
  obtain ⟨hs, hr⟩ := h
  have h0 := hr 0 (by simp)
  have h1 := hr 1 (by simp)
  refine ⟨vs.getD 0 undef, vs.getD 1 undef, ?_, by simpa using h0, by simpa using h1⟩
  apply Array.ext
  · simpa using hs
  · intro i g1 g2
    have : i = 0 ∨ i = 1 := by simp at g2; omega
    rcases this with rfl | rfl <;> simp [Array.getD, g1]
theorem gl_var {w : World} {Z : Addr → Prop} (h : GlR w Z) {g : Nat} {cs : List AV} (hg : gtab g = some cs) (vs : List Value) (hl : vs.length = cs.length) (hv : ∀ (x : Value) j, j < cs.length → AVRel w Z noG (cs.getD j .top) x → x = vs.getD j undef) (hne : cs ≠ []) :
    ∃ ty fz, w.heap[g]? = some (.cells vs.toArray ty fz) := by
  obtain ⟨h1, h2, h3⟩ := h g cs hg
  generalize hp : (Value.pointer (some ⟨g, 0, none⟩)) = u at h1
  cases h1 with
  | elm _ _ A vf hA hz hc hr =>
    injection hp with hp; injection hp with hp; subst hp
    have hlen : 0 < cs.length := List.length_pos_iff.2 hne
    have c0 := hc 0 hlen
    simp only [World.cell?, Addr.at, Nat.add_zero, Nat.zero_add] at c0 h3
    cases hh : w.heap[g]? with
    | none => simp [hh] at c0
    | some o =>
      cases o with
      | cells c ty fz =>
        refine ⟨ty, fz, ?_⟩
        simp only [hh] at h3
        have hsz : c.size ≤ cs.length := by
          rcases Nat.lt_or_ge cs.length c.size with h | h
          · simp [Array.getElem?_eq_getElem h] at h3
          · exact h
        congr 2
        apply Array.ext_getElem?
        intro i
        by_cases hi : i < cs.length
        · have ci : c[i]? = some (vf i) := by simpa [World.cell?, Addr.at, hh] using hc i hi
          rw [ci]
          have := hv (vf i) i hi (hr i hi)
          rw [this]
          simp [List.getD, hl, hi]
        · rw [Array.getElem?_eq_none (by omega), Array.getElem?_eq_none (by simp; omega)]
      | _ => simp [hh] at c0
end Go.Av
end
