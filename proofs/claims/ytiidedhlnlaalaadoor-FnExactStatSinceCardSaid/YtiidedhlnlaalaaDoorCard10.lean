/- The law of the title is proved here: it returns true for every input and leaves its arguments alone; conditions: as the given row and card say. -/
import Derived.Test.YtiidedhlnlaalaaDoorLayAP
import Derived.Test.YtiidedhlnlaalaaDoorRows
import Derived.Test.YtiidedhlnlaalaaDoorTie
import Derived.Test.YtiidedhlnlaalaaDoorCards
import Derived.ProofKit
import Derived.OpenShut
import Derived.ChangeOld
import Derived.ChangeArms
import Derived.LaidMore
import Derived.Lay
import Derived.SevenTiedAt
import Derived.Stop.Joined
import Derived.Carry
section
namespace Go.Proofs.YtiidedhlnlaalaaDoor
open Go.ChangeShapes Go.WideShapes Go.ChangeAt Go.RowKit
set_option linter.unusedVariables false
theorem fnExactStatSince_body : Go.Av.hasBody Tryd.prog 10 = true := by kernel_rfl
set_option maxRecDepth 100000 in
theorem fnExactStatSince_lifted (os : Os) (started : os.Started) (H : Type) (enc : TypeId × Value → H) :
    ReturnsInHanded {} Tryd.checked os 10 .any (fun w args => (Rows.fnExactStatSinceSpec.pre enc Tryd.prog Tryd.f10 [] false w args ∧ laidMetH Tryd.prog Rows.fnExactStatSinceRow.laid w) ∧ sizedMet enc Tryd.prog Tryd.f10 (OpenSpec.ofChange Rows.fnExactStatSinceSpec) false w args)
      (Rows.fnExactStatSinceSpec.post enc Tryd.prog Tryd.f10 false true false false) := by
  refine returnsInHanded_of_change_and (C := Tryd.checked) (X := fun w _ => laidMetH Tryd.prog Rows.fnExactStatSinceRow.laid w) (fun _ _ _ hh h => h.of_heap hh) fact_own started (by kernel_rfl) Tryd.func10
    (ChangeSpec.witness_shaped (enc := enc) (C := Tryd.checked) (os := os) (X := fun w _ => laidMetH Tryd.prog Rows.fnExactStatSinceRow.laid w) false (World.laidAll Tryd.prog os Rows.fnExactStatSinceRow.laid) #[.agg #[.int .i64 0, .slice none 0 0, .slice none 0 0, .slice none 0 0, .bool false, .slice none 0 0, .int .i64 0], .string ⟨#[]⟩, .int .i64 0] 8 (World.laidAll_os _ _ _)
      (World.shaped_of_ZipB (by kernel_rfl) (by kernel_rfl)) (by kernel_rfl) (by kernel_rfl) (by kernel_rfl)
      (by rw [MakeChecks.laidMetH_plain _ _ _ (by kernel_rfl)]; exact laidMet_laidAll _ (by kernel_rfl) (by kernel_rfl))) ?_
  intro W base args ds gs before hval0 hW _ _ _ _
  have hval : ∀ (j : Nat) t v, Tryd.f10.params[j]? = some t → args[j]? = some v → Value.okWide Tryd.prog W .any base t v := hval0
  have hW' := hW
  obtain ⟨p, q, hA0, hV, rfl, _, _⟩ := hW
  have hA : DataW.TrodAll enc Tryd.prog W 0 (fun _ => true) true Tryd.f10.params.toList args.toList ds p := hA0
  rw [Tryd.params10] at hA hval
  obtain ⟨v0, v1, v2, d0, d1, d2, p0, p1, p2, rfl, rfl, rfl, h0, h1, h2⟩ := trodAll_three hA
  obtain ⟨rfl, rfl⟩ := trodVars_none hV
  have k0 := h0
  have lt0 : ∀ x ∈ p0, x.block < W.heap.size := by obtain ⟨m, hm⟩ := k0; exact DataW.trod_lt m _ _ _ hm
  have k1 := h1
  have lt1 : ∀ x ∈ p1, x.block < W.heap.size := by obtain ⟨m, hm⟩ := k1; exact DataW.trod_lt m _ _ _ hm
  have k2 := h2
  have lt2 : ∀ x ∈ p2, x.block < W.heap.size := by obtain ⟨m, hm⟩ := k2; exact DataW.trod_lt m _ _ _ hm
  obtain ⟨avs0, r0, s0⟩ := Go.Av.open_st (n := 8) Tryd.underlying56 (by kernel_rfl) (hval 0 56 v0 rfl rfl) k0
  obtain ⟨a0, g0, rfl⟩ := Go.Av.F.core_shp s0
  obtain ⟨a1, g1, r1⟩ := Go.Av.open_str Tryd.underlying9 (hval 1 9 v1 rfl rfl) k1
  obtain ⟨a2, g2, r2⟩ := Go.Av.open_i64 Tryd.underlying3 (hval 2 3 v2 rfl rfl) k2
  simp only [List.append_nil, List.append_assoc] at hW'
  refine (Go.Av.calls_below fnExactStatSince_body ⟨rfl, fun j hj => by
    match j, hj with
    | 0, _ => exact r0
    | 1, _ => exact r1
    | 2, _ => exact r2⟩ (Go.Av.bool_only true) (Go.Av.F.lawSince a0 a1 a2 g0).c).mono fun e W' ⟨he, hb⟩ => ?_
  subst he
  exact ⟨_, rfl, _, _, _, [], _, [], hW', trodAll_mk1 (shut_bool Tryd.underlying4 _), trodAll_mk3 (Below.trod fact_laidOut (by kernel_rfl) (of_decide_eq_true (by kernel_rfl)) k0 hb lt0) (Below.trod fact_laidOut (by kernel_rfl) (of_decide_eq_true (by kernel_rfl)) k1 hb lt1) (Below.trod fact_laidOut (by kernel_rfl) (of_decide_eq_true (by kernel_rfl)) k2 hb lt2), rfl, hb.frame _, fun h => by cases h⟩
theorem fnExactStatSince_k1 : (Rows.fnExactStatSinceRow.inPlace == Tryd.prog.inPlace 10) = true := by kernel_rfl
theorem fnExactStatSince_k2 : (Rows.fnExactStatSinceRow.unfollowed == Tryd.prog.unfollowed 10) = true := by kernel_rfl
theorem fnExactStatSince_k3 : (Rows.fnExactStatSinceRow.recurses == Tryd.prog.recurses 10) = true := by kernel_rfl
theorem fnExactStatSince_k4 : (Rows.fnExactStatSinceRow.named == Tryd.prog.varsNamed 10) = true := by kernel_rfl
theorem fnExactStatSince_k5 : (Rows.fnExactStatSinceRow.plainKeys == Tryd.prog.plainKeys) = true := by kernel_rfl
theorem fnExactStatSince_k6 : (Rows.fnExactStatSinceRow.lifted == Tryd.prog.liftsFinal) = true := by kernel_rfl
theorem fnExactStatSince_k7 : (Tryd.prog.make == some Rows.fnExactStatSinceRow.make) = true := by kernel_rfl
theorem fnExactStatSince_closed : joinedFacts Tryd.prog 10 Tryd.f10 Rows.fnExactStatSinceSpec Rows.fnExactStatSinceRow = true := by
  unfold joinedFacts
  rw [fact_laidOut, fact_mapsRowed, fact_heard, fact_mayEnter, fnExactStatSince_k1, fnExactStatSince_k2, fnExactStatSince_k3, fnExactStatSince_k4, fnExactStatSince_k5, fnExactStatSince_k6, fnExactStatSince_k7]
  kernel_rfl
theorem fnExactStatSince_holds : Rows.FnExactStatSinceSaid :=
  OpenClaim.holds_of_wide 10 Tryd.f10 rfl rfl rfl rfl rfl rfl rfl ⟨rfl, rfl, rfl, rfl, rfl⟩ rfl rfl rfl rfl rfl (by kernel_rfl) Tryd.func10 fnExactStatSince_closed
    (of_decide_eq_true (by kernel_rfl)) (by unfold Func.isWrapper; first | (rw [if_pos (by decide +kernel)]; kernel_rfl) | (rw [if_neg (by decide +kernel)]; exact ⟨rfl, rfl⟩))
    (fun os started H enc _ => fnExactStatSince_lifted os started H enc)
theorem fnExactStatSince_c1 : Rows.fnExactStatSinceRow.wfByText (OpenSpec.ofChange Rows.fnExactStatSinceSpec) = true := by kernel_rfl
theorem fnExactStatSince_c2 : Tryd.prog.funcNamed "loop.example/palim/laws.FnExactStatSince" = some 10 := by kernel_rfl
theorem fnExactStatSince_c3 : ([56, 9, 3].all fun u => !Tryd.prog.wantsStandIn u) = true := by kernel_rfl
theorem fnExactStatSince_c4 : false = Rows.fnExactStatSinceRow.goesBy Tryd.pinned.checked.prog := by kernel_rfl
theorem fnExactStatSince_card : Rows.FnExactStatSinceCardSaid :=
  Claim7.holds_tied_plain_at .later [] [.data, .pinned] true (true, "2c87a6b6aad5d6925286b7b8337d65ec16c4c216255dd393ccb0f40eda3f2dd0") true fnExactStatSince_holds (fun _ h => by cases h) fnExactStatSince_c1 (fun _ h => by cases h) fnExactStatSince_row_tie rfl ⟨rfl, rfl⟩ fact_main rfl
    (fun f fn hf hfn => by
      obtain rfl : f = 10 := Option.some.inj (fnExactStatSince_c2.symm.trans hf) |>.symm
      obtain rfl : fn = Tryd.f10 := (Option.some.inj (Tryd.func10.symm.trans hfn)).symm
      exact ⟨fact_looks, fun j t ht => by
        rw [Tryd.params10] at ht
        have hm : t ∈ [56, 9, 3] := by simpa using Array.mem_of_getElem? ht
        exact (show Tryd.prog.wantsStandIn t = false by simpa using List.all_eq_true.1 fnExactStatSince_c3 t hm)⟩)
    fnExactStatSince_c4
#print axioms fnExactStatSince_card
end Go.Proofs.YtiidedhlnlaalaaDoor
end
