/- The law of the title is proved here: it returns true for every input and leaves its arguments alone; conditions: as the given row and card say. -/
import Derived.Test.YtffammdakbbanaaDoorLayAN
import Derived.Test.YtffammdakbbanaaDoorRows
import Derived.Test.YtffammdakbbanaaDoorTie
import Derived.Test.YtffammdakbbanaaDoorCards
import Derived.ProofKit
import Derived.OpenShut
import Derived.ChangeOld
import Derived.ChangeArms
import Derived.LaidMore
import Derived.Lay
import Derived.SevenTiedAt
import Derived.Stop.Joined
import Derived.Carry
section
namespace Go.Proofs.YtffammdakbbanaaDoor
open Go.ChangeShapes Go.WideShapes Go.ChangeAt Go.RowKit
set_option linter.unusedVariables false
theorem fnExactSendRead_gl {W : World} (h : laidMetH Tryd.prog Rows.fnExactSendReadRow.laid W) : Go.Av.GlR W (Go.Av.Old W) := by
  rw [MakeChecks.laidMetH_plain _ _ _ (by kernel_rfl)] at h
  intro g cs hg
  unfold Go.Av.gtab at hg
  split at hg
  · rename_i hh
    subst hh
    injection hg with hg
    subst hg
    exact Go.Av.laid_tab h (zs := [1, 10, 100, 1000, 10000, 100000, 1000000, 10000000, 100000000, 1000000000, 10000000000, 100000000000, 1000000000000, 10000000000000, 100000000000000, 1000000000000000, 10000000000000000, 100000000000000000, 1000000000000000000, 10000000000000000000]) (k := .u64) (t := 165) (e := 128) (m := 20) (List.mem_of_getElem? (i := 2) rfl) (by kernel_rfl) (by kernel_rfl) Tryd.underlying165 Tryd.underlying128 (by kernel_rfl) (by kernel_rfl) (by simp)
  split at hg
  · rename_i hh
    subst hh
    injection hg with hg
    subst hg
    exact Go.Av.laid_ifc h (t := 60) (List.mem_of_getElem? (i := 4) rfl) (by kernel_rfl) (by kernel_rfl) Tryd.underlying60
  split at hg
  · rename_i hh
    subst hh
    injection hg with hg
    subst hg
    exact Go.Av.laid_ifc h (t := 60) (List.mem_of_getElem? (i := 5) rfl) (by kernel_rfl) (by kernel_rfl) Tryd.underlying60
  cases hg
theorem fnExactSendRead_body : Go.Av.hasBody Tryd.prog 3 = true := by kernel_rfl
set_option maxRecDepth 100000 in
theorem fnExactSendRead_lifted (os : Os) (started : os.Started) (H : Type) (enc : TypeId × Value → H) :
    ReturnsInHanded {} Tryd.checked os 3 .any (fun w args => (Rows.fnExactSendReadSpec.pre enc Tryd.prog Tryd.f3 [] false w args ∧ laidMetH Tryd.prog Rows.fnExactSendReadRow.laid w) ∧ sizedMet enc Tryd.prog Tryd.f3 (OpenSpec.ofChange Rows.fnExactSendReadSpec) false w args)
      (Rows.fnExactSendReadSpec.post enc Tryd.prog Tryd.f3 false true false false) := by
  refine returnsInHanded_of_change_and (C := Tryd.checked) (X := fun w _ => laidMetH Tryd.prog Rows.fnExactSendReadRow.laid w) (fun _ _ _ hh h => h.of_heap hh) fact_own started (by kernel_rfl) Tryd.func3
    (ChangeSpec.witness_shaped (enc := enc) (C := Tryd.checked) (os := os) (X := fun w _ => laidMetH Tryd.prog Rows.fnExactSendReadRow.laid w) false (World.laidAll Tryd.prog os Rows.fnExactSendReadRow.laid) #[.string ⟨#[]⟩, .string ⟨#[]⟩] 8 (World.laidAll_os _ _ _)
      (World.shaped_of_ZipB (by kernel_rfl) (by kernel_rfl)) (by kernel_rfl) (by kernel_rfl) (by kernel_rfl)
      (by rw [MakeChecks.laidMetH_plain _ _ _ (by kernel_rfl)]; exact laidMet_laidAll _ (by kernel_rfl) (by kernel_rfl))) ?_
  intro W base args ds gs before hval0 hW _ _ hX _
  have hval : ∀ (j : Nat) t v, Tryd.f3.params[j]? = some t → args[j]? = some v → Value.okWide Tryd.prog W .any base t v := hval0
  have hW' := hW
  obtain ⟨p, q, hA0, hV, rfl, _, _⟩ := hW
  have hA : DataW.TrodAll enc Tryd.prog W 0 (fun _ => true) true Tryd.f3.params.toList args.toList ds p := hA0
  rw [Tryd.params3] at hA hval
  obtain ⟨v0, v1, d0, d1, p0, p1, rfl, rfl, rfl, h0, h1⟩ := trodAll_two hA
  obtain ⟨rfl, rfl⟩ := trodVars_none hV
  have k0 := h0
  have lt0 : ∀ x ∈ p0, x.block < W.heap.size := by obtain ⟨m, hm⟩ := k0; exact DataW.trod_lt m _ _ _ hm
  have k1 := h1
  have lt1 : ∀ x ∈ p1, x.block < W.heap.size := by obtain ⟨m, hm⟩ := k1; exact DataW.trod_lt m _ _ _ hm
  obtain ⟨a0, g0, r0⟩ := Go.Av.open_str Tryd.underlying9 (hval 0 9 v0 rfl rfl) k0
  obtain ⟨a1, g1, r1⟩ := Go.Av.open_str Tryd.underlying9 (hval 1 9 v1 rfl rfl) k1
  simp only [List.append_nil] at hW'
  refine (Go.Av.calls_below fnExactSendRead_body ⟨rfl, fun j hj => by
    match j, hj with
    | 0, _ => exact r0
    | 1, _ => exact r1⟩ (Go.Av.bool_only true) (Go.Av.F.lawSendRead a0 a1 g0 g1).c (fnExactSendRead_gl hX)).mono fun e W' ⟨he, hb⟩ => ?_
  subst he
  exact ⟨_, rfl, _, _, _, [], _, [], hW', trodAll_mk1 (shut_bool Tryd.underlying4 _), trodAll_mk2 (Below.trod fact_laidOut (by kernel_rfl) (of_decide_eq_true (by kernel_rfl)) k0 hb lt0) (Below.trod fact_laidOut (by kernel_rfl) (of_decide_eq_true (by kernel_rfl)) k1 hb lt1), rfl, hb.frame _, fun h => by cases h⟩
theorem fnExactSendRead_k1 : (Rows.fnExactSendReadRow.inPlace == Tryd.prog.inPlace 3) = true := by kernel_rfl
theorem fnExactSendRead_k2 : (Rows.fnExactSendReadRow.unfollowed == Tryd.prog.unfollowed 3) = true := by kernel_rfl
theorem fnExactSendRead_k3 : (Rows.fnExactSendReadRow.recurses == Tryd.prog.recurses 3) = true := by kernel_rfl
theorem fnExactSendRead_k4 : (Rows.fnExactSendReadRow.named == Tryd.prog.varsNamed 3) = true := by kernel_rfl
theorem fnExactSendRead_k5 : (Rows.fnExactSendReadRow.plainKeys == Tryd.prog.plainKeys) = true := by kernel_rfl
theorem fnExactSendRead_k6 : (Rows.fnExactSendReadRow.lifted == Tryd.prog.liftsFinal) = true := by kernel_rfl
theorem fnExactSendRead_k7 : (Tryd.prog.make == some Rows.fnExactSendReadRow.make) = true := by kernel_rfl
theorem fnExactSendRead_closed : joinedFacts Tryd.prog 3 Tryd.f3 Rows.fnExactSendReadSpec Rows.fnExactSendReadRow = true := by
  unfold joinedFacts
  rw [fact_laidOut, fact_mapsRowed, fact_heard, fact_mayEnter, fnExactSendRead_k1, fnExactSendRead_k2, fnExactSendRead_k3, fnExactSendRead_k4, fnExactSendRead_k5, fnExactSendRead_k6, fnExactSendRead_k7]
  kernel_rfl
theorem fnExactSendRead_holds : Rows.FnExactSendReadSaid :=
  OpenClaim.holds_of_wide 3 Tryd.f3 rfl rfl rfl rfl rfl rfl rfl ⟨rfl, rfl, rfl, rfl, rfl⟩ rfl rfl rfl rfl rfl (by kernel_rfl) Tryd.func3 fnExactSendRead_closed
    (of_decide_eq_true (by kernel_rfl)) (by unfold Func.isWrapper; first | (rw [if_pos (by decide +kernel)]; kernel_rfl) | (rw [if_neg (by decide +kernel)]; exact ⟨rfl, rfl⟩))
    (fun os started H enc _ => fnExactSendRead_lifted os started H enc)
theorem fnExactSendRead_c1 : Rows.fnExactSendReadRow.wfByText (OpenSpec.ofChange Rows.fnExactSendReadSpec) = true := by kernel_rfl
theorem fnExactSendRead_c2 : Tryd.prog.funcNamed "loop.example/palim/laws.FnExactSendRead" = some 3 := by kernel_rfl
theorem fnExactSendRead_c3 : ([9, 9].all fun u => !Tryd.prog.wantsStandIn u) = true := by kernel_rfl
theorem fnExactSendRead_c4 : false = Rows.fnExactSendReadRow.goesBy Tryd.pinned.checked.prog := by kernel_rfl
theorem fnExactSendRead_card : Rows.FnExactSendReadCardSaid :=
  Claim7.holds_tied_plain_at .later [] [.data, .data, .data, .data, .sentinel, .sentinel, .pinned] true (true, "7dfed31cec3aaa790eefdc6d62fee99c49087e930a2ebd0774f9d7963e0d94d4") true fnExactSendRead_holds (fun _ h => by cases h) fnExactSendRead_c1 (fun _ h => by cases h) fnExactSendRead_row_tie rfl ⟨rfl, rfl⟩ fact_main rfl
    (fun f fn hf hfn => by
      obtain rfl : f = 3 := Option.some.inj (fnExactSendRead_c2.symm.trans hf) |>.symm
      obtain rfl : fn = Tryd.f3 := (Option.some.inj (Tryd.func3.symm.trans hfn)).symm
      exact ⟨fact_looks, fun j t ht => by
        rw [Tryd.params3] at ht
        have hm : t ∈ [9, 9] := by simpa using Array.mem_of_getElem? ht
        exact (show Tryd.prog.wantsStandIn t = false by simpa using List.all_eq_true.1 fnExactSendRead_c3 t hm)⟩)
    fnExactSendRead_c4
#print axioms fnExactSendRead_card
end Go.Proofs.YtffammdakbbanaaDoor
end
