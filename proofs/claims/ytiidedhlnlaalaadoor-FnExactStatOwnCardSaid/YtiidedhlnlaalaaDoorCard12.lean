/- The law of the title is proved here: it returns true for every input and leaves its arguments alone; conditions: as the given row and card say. -/
import Derived.Test.YtiidedhlnlaalaaDoorLayAP
import Derived.Test.YtiidedhlnlaalaaDoorRows
import Derived.Test.YtiidedhlnlaalaaDoorTie
import Derived.Test.YtiidedhlnlaalaaDoorCards
import Derived.ProofKit
import Derived.OpenShut
import Derived.ChangeOld
import Derived.ChangeArms
import Derived.LaidMore
import Derived.Lay
import Derived.SevenTiedAt
import Derived.Stop.Joined
import Derived.Carry
section
namespace Go.Proofs.YtiidedhlnlaalaaDoor
open Go.ChangeShapes Go.WideShapes Go.ChangeAt Go.RowKit
set_option linter.unusedVariables false
theorem fnExactStatOwn_body : Go.Av.hasBody Tryd.prog 12 = true := by kernel_rfl
set_option maxRecDepth 100000 in
theorem fnExactStatOwn_lifted (os : Os) (started : os.Started) (H : Type) (enc : TypeId × Value → H) :
    ReturnsInHanded {} Tryd.checked os 12 .any (fun w args => (Rows.fnExactStatOwnSpec.pre enc Tryd.prog Tryd.f12 [] false w args ∧ laidMetH Tryd.prog Rows.fnExactStatOwnRow.laid w) ∧ sizedMet enc Tryd.prog Tryd.f12 (OpenSpec.ofChange Rows.fnExactStatOwnSpec) false w args)
      (Rows.fnExactStatOwnSpec.post enc Tryd.prog Tryd.f12 false true false false) := by
  refine returnsInHanded_of_change_and (C := Tryd.checked) (X := fun w _ => laidMetH Tryd.prog Rows.fnExactStatOwnRow.laid w) (fun _ _ _ hh h => h.of_heap hh) fact_own started (by kernel_rfl) Tryd.func12
    (ChangeSpec.witness_shaped (enc := enc) (C := Tryd.checked) (os := os) (X := fun w _ => laidMetH Tryd.prog Rows.fnExactStatOwnRow.laid w) false (World.laidAll Tryd.prog os Rows.fnExactStatOwnRow.laid) #[.agg #[.int .i64 0, .slice none 0 0, .slice none 0 0, .slice none 0 0, .bool false, .slice none 0 0, .int .i64 0], .string ⟨#[]⟩] 8 (World.laidAll_os _ _ _)
      (World.shaped_of_ZipB (by kernel_rfl) (by kernel_rfl)) (by kernel_rfl) (by kernel_rfl) (by kernel_rfl)
      (by rw [MakeChecks.laidMetH_plain _ _ _ (by kernel_rfl)]; exact laidMet_laidAll _ (by kernel_rfl) (by kernel_rfl))) ?_
  intro W base args ds gs before hval0 hW _ _ _ _
  have hval : ∀ (j : Nat) t v, Tryd.f12.params[j]? = some t → args[j]? = some v → Value.okWide Tryd.prog W .any base t v := hval0
  have hW' := hW
  obtain ⟨p, q, hA0, hV, rfl, _, _⟩ := hW
  have hA : DataW.TrodAll enc Tryd.prog W 0 (fun _ => true) true Tryd.f12.params.toList args.toList ds p := hA0
  rw [Tryd.params12] at hA hval
  obtain ⟨v0, v1, d0, d1, p0, p1, rfl, rfl, rfl, h0, h1⟩ := trodAll_two hA
  obtain ⟨rfl, rfl⟩ := trodVars_none hV
  have k0 := h0
  have lt0 : ∀ x ∈ p0, x.block < W.heap.size := by obtain ⟨m, hm⟩ := k0; exact DataW.trod_lt m _ _ _ hm
  have k1 := h1
  have lt1 : ∀ x ∈ p1, x.block < W.heap.size := by obtain ⟨m, hm⟩ := k1; exact DataW.trod_lt m _ _ _ hm
  obtain ⟨avs0, r0, s0⟩ := Go.Av.open_st (n := 8) Tryd.underlying56 (by kernel_rfl) (hval 0 56 v0 rfl rfl) k0
  obtain ⟨a0, g0, rfl⟩ := Go.Av.F.core_shp s0
  obtain ⟨a1, g1, r1⟩ := Go.Av.open_str Tryd.underlying9 (hval 1 9 v1 rfl rfl) k1
  simp only [List.append_nil] at hW'
  refine (Go.Av.calls_below fnExactStatOwn_body ⟨rfl, fun j hj => by
    match j, hj with
    | 0, _ => exact r0
    | 1, _ => exact r1⟩ (Go.Av.bool_only true) (Go.Av.F.lawOwn a0 a1 g0).c).mono fun e W' ⟨he, hb⟩ => ?_
  subst he
  exact ⟨_, rfl, _, _, _, [], _, [], hW', trodAll_mk1 (shut_bool Tryd.underlying4 _), trodAll_mk2 (Below.trod fact_laidOut (by kernel_rfl) (of_decide_eq_true (by kernel_rfl)) k0 hb lt0) (Below.trod fact_laidOut (by kernel_rfl) (of_decide_eq_true (by kernel_rfl)) k1 hb lt1), rfl, hb.frame _, fun h => by cases h⟩
theorem fnExactStatOwn_k1 : (Rows.fnExactStatOwnRow.inPlace == Tryd.prog.inPlace 12) = true := by kernel_rfl
theorem fnExactStatOwn_k2 : (Rows.fnExactStatOwnRow.unfollowed == Tryd.prog.unfollowed 12) = true := by kernel_rfl
theorem fnExactStatOwn_k3 : (Rows.fnExactStatOwnRow.recurses == Tryd.prog.recurses 12) = true := by kernel_rfl
theorem fnExactStatOwn_k4 : (Rows.fnExactStatOwnRow.named == Tryd.prog.varsNamed 12) = true := by kernel_rfl
theorem fnExactStatOwn_k5 : (Rows.fnExactStatOwnRow.plainKeys == Tryd.prog.plainKeys) = true := by kernel_rfl
theorem fnExactStatOwn_k6 : (Rows.fnExactStatOwnRow.lifted == Tryd.prog.liftsFinal) = true := by kernel_rfl
theorem fnExactStatOwn_k7 : (Tryd.prog.make == some Rows.fnExactStatOwnRow.make) = true := by kernel_rfl
theorem fnExactStatOwn_closed : joinedFacts Tryd.prog 12 Tryd.f12 Rows.fnExactStatOwnSpec Rows.fnExactStatOwnRow = true := by
  unfold joinedFacts
  rw [fact_laidOut, fact_mapsRowed, fact_heard, fact_mayEnter, fnExactStatOwn_k1, fnExactStatOwn_k2, fnExactStatOwn_k3, fnExactStatOwn_k4, fnExactStatOwn_k5, fnExactStatOwn_k6, fnExactStatOwn_k7]
  kernel_rfl
theorem fnExactStatOwn_holds : Rows.FnExactStatOwnSaid :=
  OpenClaim.holds_of_wide 12 Tryd.f12 rfl rfl rfl rfl rfl rfl rfl ⟨rfl, rfl, rfl, rfl, rfl⟩ rfl rfl rfl rfl rfl (by kernel_rfl) Tryd.func12 fnExactStatOwn_closed
    (of_decide_eq_true (by kernel_rfl)) (by unfold Func.isWrapper; first | (rw [if_pos (by decide +kernel)]; kernel_rfl) | (rw [if_neg (by decide +kernel)]; exact ⟨rfl, rfl⟩))
    (fun os started H enc _ => fnExactStatOwn_lifted os started H enc)
theorem fnExactStatOwn_c1 : Rows.fnExactStatOwnRow.wfByText (OpenSpec.ofChange Rows.fnExactStatOwnSpec) = true := by kernel_rfl
theorem fnExactStatOwn_c2 : Tryd.prog.funcNamed "loop.example/palim/laws.FnExactStatOwn" = some 12 := by kernel_rfl
theorem fnExactStatOwn_c3 : ([56, 9].all fun u => !Tryd.prog.wantsStandIn u) = true := by kernel_rfl
theorem fnExactStatOwn_c4 : false = Rows.fnExactStatOwnRow.goesBy Tryd.pinned.checked.prog := by kernel_rfl
theorem fnExactStatOwn_card : Rows.FnExactStatOwnCardSaid :=
  Claim7.holds_tied_plain_at .later [] [.data, .pinned] true (true, "2c87a6b6aad5d6925286b7b8337d65ec16c4c216255dd393ccb0f40eda3f2dd0") true fnExactStatOwn_holds (fun _ h => by cases h) fnExactStatOwn_c1 (fun _ h => by cases h) fnExactStatOwn_row_tie rfl ⟨rfl, rfl⟩ fact_main rfl
    (fun f fn hf hfn => by
      obtain rfl : f = 12 := Option.some.inj (fnExactStatOwn_c2.symm.trans hf) |>.symm
      obtain rfl : fn = Tryd.f12 := (Option.some.inj (Tryd.func12.symm.trans hfn)).symm
      exact ⟨fact_looks, fun j t ht => by
        rw [Tryd.params12] at ht
        have hm : t ∈ [56, 9] := by simpa using Array.mem_of_getElem? ht
        exact (show Tryd.prog.wantsStandIn t = false by simpa using List.all_eq_true.1 fnExactStatOwn_c3 t hm)⟩)
    fnExactStatOwn_c4
#print axioms fnExactStatOwn_card
end Go.Proofs.YtiidedhlnlaalaaDoor
end
