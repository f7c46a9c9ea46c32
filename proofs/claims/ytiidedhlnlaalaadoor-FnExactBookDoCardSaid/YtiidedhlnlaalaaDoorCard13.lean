/- The law of the title is proved here: it returns true for every input and leaves its arguments alone; conditions: as the given row and card say. -/
import Derived.Test.YtiidedhlnlaalaaDoorLayAO
import Derived.Test.YtiidedhlnlaalaaDoorRows
import Derived.Test.YtiidedhlnlaalaaDoorTie
import Derived.Test.YtiidedhlnlaalaaDoorCards
import Derived.ProofKit
import Derived.OpenShut
import Derived.ChangeOld
import Derived.ChangeArms
import Derived.LaidMore
import Derived.Lay
import Derived.SevenTiedAt
import Derived.Stop.Joined
import Derived.Carry
section
namespace Go.Proofs.YtiidedhlnlaalaaDoor
open Go.ChangeShapes Go.WideShapes Go.ChangeAt Go.RowKit
set_option linter.unusedVariables false
theorem fnExactBookDo_body : Go.Av.hasBody Tryd.prog 13 = true := by kernel_rfl
set_option maxRecDepth 100000 in
theorem fnExactBookDo_lifted (os : Os) (started : os.Started) (H : Type) (enc : TypeId × Value → H) :
    ReturnsInHanded {} Tryd.checked os 13 .any (fun w args => (Rows.fnExactBookDoSpec.pre enc Tryd.prog Tryd.f13 [] false w args ∧ laidMetH Tryd.prog Rows.fnExactBookDoRow.laid w) ∧ sizedMet enc Tryd.prog Tryd.f13 (OpenSpec.ofChange Rows.fnExactBookDoSpec) false w args)
      (Rows.fnExactBookDoSpec.post enc Tryd.prog Tryd.f13 false true false false) := by
  refine returnsInHanded_of_change_and (C := Tryd.checked) (X := fun w _ => laidMetH Tryd.prog Rows.fnExactBookDoRow.laid w) (fun _ _ _ hh h => h.of_heap hh) fact_own started (by kernel_rfl) Tryd.func13
    (ChangeSpec.witness_shaped (enc := enc) (C := Tryd.checked) (os := os) (X := fun w _ => laidMetH Tryd.prog Rows.fnExactBookDoRow.laid w) false (World.laidAll Tryd.prog os Rows.fnExactBookDoRow.laid) #[.agg #[.slice none 0 0], .agg #[.int .i64 0, .string ⟨#[]⟩, .string ⟨#[]⟩, .int .i64 0, .string ⟨#[]⟩]] 8 (World.laidAll_os _ _ _)
      (World.shaped_of_ZipB (by kernel_rfl) (by kernel_rfl)) (by kernel_rfl) (by kernel_rfl) (by kernel_rfl)
      (by rw [MakeChecks.laidMetH_plain _ _ _ (by kernel_rfl)]; exact laidMet_laidAll _ (by kernel_rfl) (by kernel_rfl))) ?_
  intro W base args ds gs before hval0 hW _ _ _ _
  have hval : ∀ (j : Nat) t v, Tryd.f13.params[j]? = some t → args[j]? = some v → Value.okWide Tryd.prog W .any base t v := hval0
  have hW' := hW
  obtain ⟨p, q, hA0, hV, rfl, _, _⟩ := hW
  have hA : DataW.TrodAll enc Tryd.prog W 0 (fun _ => true) true Tryd.f13.params.toList args.toList ds p := hA0
  rw [Tryd.params13] at hA hval
  obtain ⟨v0, v1, d0, d1, p0, p1, rfl, rfl, rfl, h0, h1⟩ := trodAll_two hA
  obtain ⟨rfl, rfl⟩ := trodVars_none hV
  have k0 := h0
  have lt0 : ∀ x ∈ p0, x.block < W.heap.size := by obtain ⟨m, hm⟩ := k0; exact DataW.trod_lt m _ _ _ hm
  have k1 := h1
  have lt1 : ∀ x ∈ p1, x.block < W.heap.size := by obtain ⟨m, hm⟩ := k1; exact DataW.trod_lt m _ _ _ hm
  obtain ⟨avs0, r0, s0⟩ := Go.Av.open_st (n := 8) Tryd.underlying75 (by kernel_rfl) (hval 0 75 v0 rfl rfl) k0
  obtain ⟨a0, g0, rfl⟩ := Go.Av.F.bk_shp s0
  obtain ⟨avs1, r1, s1⟩ := Go.Av.open_st (n := 8) Tryd.underlying76 (by kernel_rfl) (hval 1 76 v1 rfl rfl) k1
  obtain ⟨a1, g1, rfl⟩ := Go.Av.F.bo_shp s1
  simp only [List.append_nil] at hW'
  refine (Go.Av.calls_below fnExactBookDo_body ⟨rfl, fun j hj => by
    match j, hj with
    | 0, _ => exact r0
    | 1, _ => exact r1⟩ (Go.Av.bool_only true) (Go.Av.F.lawBookDo' a0 a1 g0 g1).c).mono fun e W' ⟨he, hb⟩ => ?_
  subst he
  exact ⟨_, rfl, _, _, _, [], _, [], hW', trodAll_mk1 (shut_bool Tryd.underlying4 _), trodAll_mk2 (Below.trod fact_laidOut (by kernel_rfl) (of_decide_eq_true (by kernel_rfl)) k0 hb lt0) (Below.trod fact_laidOut (by kernel_rfl) (of_decide_eq_true (by kernel_rfl)) k1 hb lt1), rfl, hb.frame _, fun h => by cases h⟩
theorem fnExactBookDo_k1 : (Rows.fnExactBookDoRow.inPlace == Tryd.prog.inPlace 13) = true := by kernel_rfl
theorem fnExactBookDo_k2 : (Rows.fnExactBookDoRow.unfollowed == Tryd.prog.unfollowed 13) = true := by kernel_rfl
theorem fnExactBookDo_k3 : (Rows.fnExactBookDoRow.recurses == Tryd.prog.recurses 13) = true := by kernel_rfl
theorem fnExactBookDo_k4 : (Rows.fnExactBookDoRow.named == Tryd.prog.varsNamed 13) = true := by kernel_rfl
theorem fnExactBookDo_k5 : (Rows.fnExactBookDoRow.plainKeys == Tryd.prog.plainKeys) = true := by kernel_rfl
theorem fnExactBookDo_k6 : (Rows.fnExactBookDoRow.lifted == Tryd.prog.liftsFinal) = true := by kernel_rfl
theorem fnExactBookDo_k7 : (Tryd.prog.make == some Rows.fnExactBookDoRow.make) = true := by kernel_rfl
theorem fnExactBookDo_closed : joinedFacts Tryd.prog 13 Tryd.f13 Rows.fnExactBookDoSpec Rows.fnExactBookDoRow = true := by
  unfold joinedFacts
  rw [fact_laidOut, fact_mapsRowed, fact_heard, fact_mayEnter, fnExactBookDo_k1, fnExactBookDo_k2, fnExactBookDo_k3, fnExactBookDo_k4, fnExactBookDo_k5, fnExactBookDo_k6, fnExactBookDo_k7]
  kernel_rfl
theorem fnExactBookDo_holds : Rows.FnExactBookDoSaid :=
  OpenClaim.holds_of_wide 13 Tryd.f13 rfl rfl rfl rfl rfl rfl rfl ⟨rfl, rfl, rfl, rfl, rfl⟩ rfl rfl rfl rfl rfl (by kernel_rfl) Tryd.func13 fnExactBookDo_closed
    (of_decide_eq_true (by kernel_rfl)) (by unfold Func.isWrapper; first | (rw [if_pos (by decide +kernel)]; kernel_rfl) | (rw [if_neg (by decide +kernel)]; exact ⟨rfl, rfl⟩))
    (fun os started H enc _ => fnExactBookDo_lifted os started H enc)
theorem fnExactBookDo_c1 : Rows.fnExactBookDoRow.wfByText (OpenSpec.ofChange Rows.fnExactBookDoSpec) = true := by kernel_rfl
theorem fnExactBookDo_c2 : Tryd.prog.funcNamed "loop.example/palim/laws.FnExactBookDo" = some 13 := by kernel_rfl
theorem fnExactBookDo_c3 : ([75, 76].all fun u => !Tryd.prog.wantsStandIn u) = true := by kernel_rfl
theorem fnExactBookDo_c4 : false = Rows.fnExactBookDoRow.goesBy Tryd.pinned.checked.prog := by kernel_rfl
theorem fnExactBookDo_card : Rows.FnExactBookDoCardSaid :=
  Claim7.holds_tied_plain_at .later [] [.data, .pinned] true (true, "2c87a6b6aad5d6925286b7b8337d65ec16c4c216255dd393ccb0f40eda3f2dd0") true fnExactBookDo_holds (fun _ h => by cases h) fnExactBookDo_c1 (fun _ h => by cases h) fnExactBookDo_row_tie rfl ⟨rfl, rfl⟩ fact_main rfl
    (fun f fn hf hfn => by
      obtain rfl : f = 13 := Option.some.inj (fnExactBookDo_c2.symm.trans hf) |>.symm
      obtain rfl : fn = Tryd.f13 := (Option.some.inj (Tryd.func13.symm.trans hfn)).symm
      exact ⟨fact_looks, fun j t ht => by
        rw [Tryd.params13] at ht
        have hm : t ∈ [75, 76] := by simpa using Array.mem_of_getElem? ht
        exact (show Tryd.prog.wantsStandIn t = false by simpa using List.all_eq_true.1 fnExactBookDo_c3 t hm)⟩)
    fnExactBookDo_c4
#print axioms fnExactBookDo_card
end Go.Proofs.YtiidedhlnlaalaaDoor
end
