/- The law of the title is proved here: it returns true for every input and leaves its arguments alone; conditions: as the given row and card say. -/
import Derived.Test.YtiidedhlnlaalaaDoorLayAP
import Derived.Test.YtiidedhlnlaalaaDoorRows
import Derived.Test.YtiidedhlnlaalaaDoorTie
import Derived.Test.YtiidedhlnlaalaaDoorCards
import Derived.ProofKit
import Derived.OpenShut
import Derived.ChangeOld
import Derived.ChangeArms
import Derived.LaidMore
import Derived.Lay
import Derived.SevenTiedAt
import Derived.Stop.Joined
import Derived.Carry
section
namespace Go.Proofs.YtiidedhlnlaalaaDoor
open Go.ChangeShapes Go.WideShapes Go.ChangeAt Go.RowKit
set_option linter.unusedVariables false
theorem fnExactStatSaved_body : Go.Av.hasBody Tryd.prog 8 = true := by kernel_rfl
set_option maxRecDepth 100000 in
theorem fnExactStatSaved_lifted (os : Os) (started : os.Started) (H : Type) (enc : TypeId × Value → H) :
    ReturnsInHanded {} Tryd.checked os 8 .any (fun w args => (Rows.fnExactStatSavedSpec.pre enc Tryd.prog Tryd.f8 [] false w args ∧ laidMetH Tryd.prog Rows.fnExactStatSavedRow.laid w) ∧ sizedMet enc Tryd.prog Tryd.f8 (OpenSpec.ofChange Rows.fnExactStatSavedSpec) false w args)
      (Rows.fnExactStatSavedSpec.post enc Tryd.prog Tryd.f8 false true false false) := by
  refine returnsInHanded_of_change_and (C := Tryd.checked) (X := fun w _ => laidMetH Tryd.prog Rows.fnExactStatSavedRow.laid w) (fun _ _ _ hh h => h.of_heap hh) fact_own started (by kernel_rfl) Tryd.func8
    (ChangeSpec.witness_shaped (enc := enc) (C := Tryd.checked) (os := os) (X := fun w _ => laidMetH Tryd.prog Rows.fnExactStatSavedRow.laid w) false (World.laidAll Tryd.prog os Rows.fnExactStatSavedRow.laid) #[.agg #[.int .i64 0, .slice none 0 0, .slice none 0 0, .slice none 0 0, .bool false, .slice none 0 0, .int .i64 0]] 8 (World.laidAll_os _ _ _)
      (World.shaped_of_ZipB (by kernel_rfl) (by kernel_rfl)) (by kernel_rfl) (by kernel_rfl) (by kernel_rfl)
      (by rw [MakeChecks.laidMetH_plain _ _ _ (by kernel_rfl)]; exact laidMet_laidAll _ (by kernel_rfl) (by kernel_rfl))) ?_
  intro W base args ds gs before hval0 hW _ _ _ _
  have hval : ∀ (j : Nat) t v, Tryd.f8.params[j]? = some t → args[j]? = some v → Value.okWide Tryd.prog W .any base t v := hval0
  have hW' := hW
  obtain ⟨p, q, hA0, hV, rfl, _, _⟩ := hW
  have hA : DataW.TrodAll enc Tryd.prog W 0 (fun _ => true) true Tryd.f8.params.toList args.toList ds p := hA0
  rw [Tryd.params8] at hA hval
  obtain ⟨v0, d0, rfl, rfl, h0⟩ := trodAll_one hA
  obtain ⟨rfl, rfl⟩ := trodVars_none hV
  have k0 := h0
  have lt0 : ∀ x ∈ p, x.block < W.heap.size := by obtain ⟨m, hm⟩ := k0; exact DataW.trod_lt m _ _ _ hm
  obtain ⟨avs0, r0, s0⟩ := Go.Av.open_st (n := 8) Tryd.underlying56 (by kernel_rfl) (hval 0 56 v0 rfl rfl) k0
  obtain ⟨a0, g0, rfl⟩ := Go.Av.F.core_shp s0
  simp only [List.append_nil] at hW'
  refine (Go.Av.calls_below fnExactStatSaved_body ⟨rfl, fun j hj => by
    match j, hj with
    | 0, _ => exact r0⟩ (Go.Av.bool_only true) (Go.Av.F.lawSaved a0 g0).c).mono fun e W' ⟨he, hb⟩ => ?_
  subst he
  exact ⟨_, rfl, _, _, _, [], _, [], hW', trodAll_mk1 (shut_bool Tryd.underlying4 _), trodAll_mk1 (Below.trod fact_laidOut (by kernel_rfl) (of_decide_eq_true (by kernel_rfl)) k0 hb lt0), rfl, hb.frame _, fun h => by cases h⟩
theorem fnExactStatSaved_k1 : (Rows.fnExactStatSavedRow.inPlace == Tryd.prog.inPlace 8) = true := by kernel_rfl
theorem fnExactStatSaved_k2 : (Rows.fnExactStatSavedRow.unfollowed == Tryd.prog.unfollowed 8) = true := by kernel_rfl
theorem fnExactStatSaved_k3 : (Rows.fnExactStatSavedRow.recurses == Tryd.prog.recurses 8) = true := by kernel_rfl
theorem fnExactStatSaved_k4 : (Rows.fnExactStatSavedRow.named == Tryd.prog.varsNamed 8) = true := by kernel_rfl
theorem fnExactStatSaved_k5 : (Rows.fnExactStatSavedRow.plainKeys == Tryd.prog.plainKeys) = true := by kernel_rfl
theorem fnExactStatSaved_k6 : (Rows.fnExactStatSavedRow.lifted == Tryd.prog.liftsFinal) = true := by kernel_rfl
theorem fnExactStatSaved_k7 : (Tryd.prog.make == some Rows.fnExactStatSavedRow.make) = true := by kernel_rfl
theorem fnExactStatSaved_closed : joinedFacts Tryd.prog 8 Tryd.f8 Rows.fnExactStatSavedSpec Rows.fnExactStatSavedRow = true := by
  unfold joinedFacts
  rw [fact_laidOut, fact_mapsRowed, fact_heard, fact_mayEnter, fnExactStatSaved_k1, fnExactStatSaved_k2, fnExactStatSaved_k3, fnExactStatSaved_k4, fnExactStatSaved_k5, fnExactStatSaved_k6, fnExactStatSaved_k7]
  kernel_rfl
theorem fnExactStatSaved_holds : Rows.FnExactStatSavedSaid :=
  OpenClaim.holds_of_wide 8 Tryd.f8 rfl rfl rfl rfl rfl rfl rfl ⟨rfl, rfl, rfl, rfl, rfl⟩ rfl rfl rfl rfl rfl (by kernel_rfl) Tryd.func8 fnExactStatSaved_closed
    (of_decide_eq_true (by kernel_rfl)) (by unfold Func.isWrapper; first | (rw [if_pos (by decide +kernel)]; kernel_rfl) | (rw [if_neg (by decide +kernel)]; exact ⟨rfl, rfl⟩))
    (fun os started H enc _ => fnExactStatSaved_lifted os started H enc)
theorem fnExactStatSaved_c1 : Rows.fnExactStatSavedRow.wfByText (OpenSpec.ofChange Rows.fnExactStatSavedSpec) = true := by kernel_rfl
theorem fnExactStatSaved_c2 : Tryd.prog.funcNamed "loop.example/palim/laws.FnExactStatSaved" = some 8 := by kernel_rfl
theorem fnExactStatSaved_c3 : ([56].all fun u => !Tryd.prog.wantsStandIn u) = true := by kernel_rfl
theorem fnExactStatSaved_c4 : false = Rows.fnExactStatSavedRow.goesBy Tryd.pinned.checked.prog := by kernel_rfl
theorem fnExactStatSaved_card : Rows.FnExactStatSavedCardSaid :=
  Claim7.holds_tied_plain_at .later [] [.data, .pinned] true (true, "2c87a6b6aad5d6925286b7b8337d65ec16c4c216255dd393ccb0f40eda3f2dd0") true fnExactStatSaved_holds (fun _ h => by cases h) fnExactStatSaved_c1 (fun _ h => by cases h) fnExactStatSaved_row_tie rfl ⟨rfl, rfl⟩ fact_main rfl
    (fun f fn hf hfn => by
      obtain rfl : f = 8 := Option.some.inj (fnExactStatSaved_c2.symm.trans hf) |>.symm
      obtain rfl : fn = Tryd.f8 := (Option.some.inj (Tryd.func8.symm.trans hfn)).symm
      exact ⟨fact_looks, fun j t ht => by
        rw [Tryd.params8] at ht
        have hm : t ∈ [56] := by simpa using Array.mem_of_getElem? ht
        exact (show Tryd.prog.wantsStandIn t = false by simpa using List.all_eq_true.1 fnExactStatSaved_c3 t hm)⟩)
    fnExactStatSaved_c4
#print axioms fnExactStatSaved_card
end Go.Proofs.YtiidedhlnlaalaaDoor
end
