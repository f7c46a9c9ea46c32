/- The law of the title is proved here: it returns true for every input and leaves its arguments alone; conditions: as the given row and card say. -/
import Derived.Test.YtffammdakbbanaaGreatDoorLayAN
import Derived.Test.YtffammdakbbanaaGreatDoorRows
import Derived.Test.YtffammdakbbanaaGreatDoorTie
import Derived.Test.YtffammdakbbanaaGreatDoorCards
import Derived.ProofKit
import Derived.OpenShut
import Derived.ChangeOld
import Derived.ChangeArms
import Derived.LaidMore
import Derived.Lay
import Derived.SevenTiedAt
import Derived.Stop.Joined
import Derived.Carry
section
namespace Go.Proofs.YtffammdakbbanaaGreatDoor
open Go.ChangeShapes Go.WideShapes Go.ChangeAt Go.RowKit
set_option linter.unusedVariables false
theorem fnExactSendApply_gl {W : World} (h : laidMetH Tryz.prog Rows.fnExactSendApplyRow.laid W) : Go.Av.GlR W (Go.Av.Old W) := by
  rw [MakeChecks.laidMetH_plain _ _ _ (by kernel_rfl)] at h
  intro g cs hg
  unfold Go.Av.gtab at hg
  split at hg
  · rename_i hh
    subst hh
    injection hg with hg
    subst hg
    exact Go.Av.laid_tab h (zs := [1, 10, 100, 1000, 10000, 100000, 1000000, 10000000, 100000000, 1000000000, 10000000000, 100000000000, 1000000000000, 10000000000000, 100000000000000, 1000000000000000, 10000000000000000, 100000000000000000, 1000000000000000000, 10000000000000000000]) (k := .u64) (t := 244) (e := 207) (m := 20) (List.mem_of_getElem? (i := 2) rfl) (by kernel_rfl) (by kernel_rfl) Tryz.underlying244 Tryz.underlying207 (by kernel_rfl) (by kernel_rfl) (by simp)
  split at hg
  · rename_i hh
    subst hh
    injection hg with hg
    subst hg
    exact Go.Av.laid_ifc h (t := 111) (List.mem_of_getElem? (i := 4) rfl) (by kernel_rfl) (by kernel_rfl) Tryz.underlying111
  split at hg
  · rename_i hh
    subst hh
    injection hg with hg
    subst hg
    exact Go.Av.laid_ifc h (t := 111) (List.mem_of_getElem? (i := 5) rfl) (by kernel_rfl) (by kernel_rfl) Tryz.underlying111
  cases hg
theorem fnExactSendApply_body : Go.Av.hasBody Tryz.prog 4 = true := by kernel_rfl
set_option maxRecDepth 100000 in
theorem fnExactSendApply_lifted (os : Os) (started : os.Started) (H : Type) (enc : TypeId × Value → H) :
    ReturnsInHanded {} Tryz.checked os 4 .any (fun w args => (Rows.fnExactSendApplySpec.pre enc Tryz.prog Tryz.f4 [] false w args ∧ laidMetH Tryz.prog Rows.fnExactSendApplyRow.laid w) ∧ sizedMet enc Tryz.prog Tryz.f4 (OpenSpec.ofChange Rows.fnExactSendApplySpec) false w args)
      (Rows.fnExactSendApplySpec.post enc Tryz.prog Tryz.f4 false true false false) := by
  refine returnsInHanded_of_change_and (C := Tryz.checked) (X := fun w _ => laidMetH Tryz.prog Rows.fnExactSendApplyRow.laid w) (fun _ _ _ hh h => h.of_heap hh) fact_own started (by kernel_rfl) Tryz.func4
    (ChangeSpec.witness_shaped (enc := enc) (C := Tryz.checked) (os := os) (X := fun w _ => laidMetH Tryz.prog Rows.fnExactSendApplyRow.laid w) false (World.laidAll Tryz.prog os Rows.fnExactSendApplyRow.laid) #[.agg #[.slice none 0 0], .string ⟨#[]⟩, .string ⟨#[]⟩] 8 (World.laidAll_os _ _ _)
      (World.shaped_of_ZipB (by kernel_rfl) (by kernel_rfl)) (by kernel_rfl) (by kernel_rfl) (by kernel_rfl)
      (by rw [MakeChecks.laidMetH_plain _ _ _ (by kernel_rfl)]; exact laidMet_laidAll _ (by kernel_rfl) (by kernel_rfl))) ?_
  intro W base args ds gs before hval0 hW _ _ hX _
  have hval : ∀ (j : Nat) t v, Tryz.f4.params[j]? = some t → args[j]? = some v → Value.okWide Tryz.prog W .any base t v := hval0
  have hW' := hW
  obtain ⟨p, q, hA0, hV, rfl, _, _⟩ := hW
  have hA : DataW.TrodAll enc Tryz.prog W 0 (fun _ => true) true Tryz.f4.params.toList args.toList ds p := hA0
  rw [Tryz.params4] at hA hval
  obtain ⟨v0, v1, v2, d0, d1, d2, p0, p1, p2, rfl, rfl, rfl, h0, h1, h2⟩ := trodAll_three hA
  obtain ⟨rfl, rfl⟩ := trodVars_none hV
  have k0 := h0
  have lt0 : ∀ x ∈ p0, x.block < W.heap.size := by obtain ⟨m, hm⟩ := k0; exact DataW.trod_lt m _ _ _ hm
  have k1 := h1
  have lt1 : ∀ x ∈ p1, x.block < W.heap.size := by obtain ⟨m, hm⟩ := k1; exact DataW.trod_lt m _ _ _ hm
  have k2 := h2
  have lt2 : ∀ x ∈ p2, x.block < W.heap.size := by obtain ⟨m, hm⟩ := k2; exact DataW.trod_lt m _ _ _ hm
  obtain ⟨avs0, r0, s0⟩ := Go.Av.open_st (n := 8) Tryz.underlying36 (by kernel_rfl) (hval 0 36 v0 rfl rfl) k0
  obtain ⟨a0, g0, rfl⟩ := Go.Av.F.bk_shp s0
  obtain ⟨a1, g1, r1⟩ := Go.Av.open_str Tryz.underlying9 (hval 1 9 v1 rfl rfl) k1
  obtain ⟨a2, g2, r2⟩ := Go.Av.open_str Tryz.underlying9 (hval 2 9 v2 rfl rfl) k2
  simp only [List.append_nil, List.append_assoc] at hW'
  refine (Go.Av.calls_below fnExactSendApply_body ⟨rfl, fun j hj => by
    match j, hj with
    | 0, _ => exact r0
    | 1, _ => exact r1
    | 2, _ => exact r2⟩ (Go.Av.bool_only true) (Go.Av.F.lawSendApplyX' a0 a1 a2 g0 g1 g2).c (fnExactSendApply_gl hX)).mono fun e W' ⟨he, hb⟩ => ?_
  subst he
  exact ⟨_, rfl, _, _, _, [], _, [], hW', trodAll_mk1 (shut_bool Tryz.underlying4 _), trodAll_mk3 (Below.trod fact_laidOut (by kernel_rfl) (of_decide_eq_true (by kernel_rfl)) k0 hb lt0) (Below.trod fact_laidOut (by kernel_rfl) (of_decide_eq_true (by kernel_rfl)) k1 hb lt1) (Below.trod fact_laidOut (by kernel_rfl) (of_decide_eq_true (by kernel_rfl)) k2 hb lt2), rfl, hb.frame _, fun h => by cases h⟩
theorem fnExactSendApply_k1 : (Rows.fnExactSendApplyRow.inPlace == Tryz.prog.inPlace 4) = true := by kernel_rfl
theorem fnExactSendApply_k2 : (Rows.fnExactSendApplyRow.unfollowed == Tryz.prog.unfollowed 4) = true := by kernel_rfl
theorem fnExactSendApply_k3 : (Rows.fnExactSendApplyRow.recurses == Tryz.prog.recurses 4) = true := by kernel_rfl
theorem fnExactSendApply_k4 : (Rows.fnExactSendApplyRow.named == Tryz.prog.varsNamed 4) = true := by kernel_rfl
theorem fnExactSendApply_k5 : (Rows.fnExactSendApplyRow.plainKeys == Tryz.prog.plainKeys) = true := by kernel_rfl
theorem fnExactSendApply_k6 : (Rows.fnExactSendApplyRow.lifted == Tryz.prog.liftsFinal) = true := by kernel_rfl
theorem fnExactSendApply_k7 : (Tryz.prog.make == some Rows.fnExactSendApplyRow.make) = true := by kernel_rfl
theorem fnExactSendApply_closed : joinedFacts Tryz.prog 4 Tryz.f4 Rows.fnExactSendApplySpec Rows.fnExactSendApplyRow = true := by
  unfold joinedFacts
  rw [fact_laidOut, fact_mapsRowed, fact_heard, fact_mayEnter, fnExactSendApply_k1, fnExactSendApply_k2, fnExactSendApply_k3, fnExactSendApply_k4, fnExactSendApply_k5, fnExactSendApply_k6, fnExactSendApply_k7]
  kernel_rfl
theorem fnExactSendApply_holds : Rows.FnExactSendApplySaid :=
  OpenClaim.holds_of_wide 4 Tryz.f4 rfl rfl rfl rfl rfl rfl rfl ⟨rfl, rfl, rfl, rfl, rfl⟩ rfl rfl rfl rfl rfl (by kernel_rfl) Tryz.func4 fnExactSendApply_closed
    (of_decide_eq_true (by kernel_rfl)) (by unfold Func.isWrapper; first | (rw [if_pos (by decide +kernel)]; kernel_rfl) | (rw [if_neg (by decide +kernel)]; exact ⟨rfl, rfl⟩))
    (fun os started H enc _ => fnExactSendApply_lifted os started H enc)
theorem fnExactSendApply_c1 : Rows.fnExactSendApplyRow.wfByText (OpenSpec.ofChange Rows.fnExactSendApplySpec) = true := by kernel_rfl
theorem fnExactSendApply_c2 : Tryz.prog.funcNamed "loop.example/palim/laws.FnExactSendApply" = some 4 := by kernel_rfl
theorem fnExactSendApply_c3 : ([36, 9, 9].all fun u => !Tryz.prog.wantsStandIn u) = true := by kernel_rfl
theorem fnExactSendApply_c4 : false = Rows.fnExactSendApplyRow.goesBy Tryz.pinned.checked.prog := by kernel_rfl
theorem fnExactSendApply_card : Rows.FnExactSendApplyCardSaid :=
  Claim7.holds_tied_plain_at .later [] [.data, .data, .data, .data, .sentinel, .sentinel, .pinned] true (true, "ad0d94105eb6e27317b1ac9113807a56e7b4c351d1e11cd5cd834b34e0abc181") true fnExactSendApply_holds (fun _ h => by cases h) fnExactSendApply_c1 (fun _ h => by cases h) fnExactSendApply_row_tie rfl ⟨rfl, rfl⟩ fact_main rfl
    (fun f fn hf hfn => by
      obtain rfl : f = 4 := Option.some.inj (fnExactSendApply_c2.symm.trans hf) |>.symm
      obtain rfl : fn = Tryz.f4 := (Option.some.inj (Tryz.func4.symm.trans hfn)).symm
      exact ⟨fact_looks, fun j t ht => by
        rw [Tryz.params4] at ht
        have hm : t ∈ [36, 9, 9] := by simpa using Array.mem_of_getElem? ht
        exact (show Tryz.prog.wantsStandIn t = false by simpa using List.all_eq_true.1 fnExactSendApply_c3 t hm)⟩)
    fnExactSendApply_c4
#print axioms fnExactSendApply_card
end Go.Proofs.YtffammdakbbanaaGreatDoor
end
