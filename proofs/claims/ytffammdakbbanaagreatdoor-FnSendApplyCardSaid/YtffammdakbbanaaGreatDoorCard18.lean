/- The law of the title is proved here: it returns true for every input and leaves its arguments alone; conditions: as the given row and card say. -/
import Derived.Test.YtffammdakbbanaaGreatDoorLayAO
import Derived.Test.YtffammdakbbanaaGreatDoorRows
import Derived.Test.YtffammdakbbanaaGreatDoorTie
import Derived.Test.YtffammdakbbanaaGreatDoorCards
import Derived.ProofKit
import Derived.OpenShut
import Derived.ChangeOld
import Derived.ChangeArms
import Derived.LaidMore
import Derived.Lay
import Derived.SevenTiedAt
import Derived.Stop.Joined
import Derived.Carry
section
namespace Go.Proofs.YtffammdakbbanaaGreatDoor
open Go.ChangeShapes Go.WideShapes Go.ChangeAt Go.RowKit
set_option linter.unusedVariables false
theorem fnSendApply_gl {W : World} (h : laidMetH Tryz.prog Rows.fnSendApplyRow.laid W) : Go.Av.GlR W (Go.Av.Old W) := by
  rw [MakeChecks.laidMetH_plain _ _ _ (by kernel_rfl)] at h
  intro g cs hg
  unfold Go.Av.gtab at hg
  split at hg
  · rename_i hh
    subst hh
    injection hg with hg
    subst hg
    exact Go.Av.laid_tab h (zs := [1, 10, 100, 1000, 10000, 100000, 1000000, 10000000, 100000000, 1000000000, 10000000000, 100000000000, 1000000000000, 10000000000000, 100000000000000, 1000000000000000, 10000000000000000, 100000000000000000, 1000000000000000000, 10000000000000000000]) (k := .u64) (t := 244) (e := 207) (m := 20) (List.mem_of_getElem? (i := 2) rfl) (by kernel_rfl) (by kernel_rfl) Tryz.underlying244 Tryz.underlying207 (by kernel_rfl) (by kernel_rfl) (by simp)
  split at hg
  · rename_i hh
    subst hh
    injection hg with hg
    subst hg
    exact Go.Av.laid_ifc h (t := 111) (List.mem_of_getElem? (i := 4) rfl) (by kernel_rfl) (by kernel_rfl) Tryz.underlying111
  split at hg
  · rename_i hh
    subst hh
    injection hg with hg
    subst hg
    exact Go.Av.laid_ifc h (t := 111) (List.mem_of_getElem? (i := 5) rfl) (by kernel_rfl) (by kernel_rfl) Tryz.underlying111
  cases hg
theorem fnSendApply_body : Go.Av.hasBody Tryz.prog 5 = true := by kernel_rfl
set_option maxRecDepth 100000 in
theorem fnSendApply_lifted (os : Os) (started : os.Started) (H : Type) (enc : TypeId × Value → H) :
    ReturnsInHanded {} Tryz.checked os 5 .any (fun w args => (Rows.fnSendApplySpec.pre enc Tryz.prog Tryz.f5 [] false w args ∧ laidMetH Tryz.prog Rows.fnSendApplyRow.laid w) ∧ sizedMet enc Tryz.prog Tryz.f5 (OpenSpec.ofChange Rows.fnSendApplySpec) false w args)
      (Rows.fnSendApplySpec.post enc Tryz.prog Tryz.f5 false true false false) := by
  refine returnsInHanded_of_change_and (C := Tryz.checked) (X := fun w _ => laidMetH Tryz.prog Rows.fnSendApplyRow.laid w) (fun _ _ _ hh h => h.of_heap hh) fact_own started (by kernel_rfl) Tryz.func5
    (ChangeSpec.witness_shaped (enc := enc) (C := Tryz.checked) (os := os) (X := fun w _ => laidMetH Tryz.prog Rows.fnSendApplyRow.laid w) false (World.laidAll Tryz.prog os Rows.fnSendApplyRow.laid) #[.slice none 0 0] 8 (World.laidAll_os _ _ _)
      (World.shaped_of_ZipB (by kernel_rfl) (by kernel_rfl)) (by kernel_rfl) (by kernel_rfl) (by kernel_rfl)
      (by rw [MakeChecks.laidMetH_plain _ _ _ (by kernel_rfl)]; exact laidMet_laidAll _ (by kernel_rfl) (by kernel_rfl))) ?_
  intro W base args ds gs before hval0 hW _ _ hX _
  have hval : ∀ (j : Nat) t v, Tryz.f5.params[j]? = some t → args[j]? = some v → Value.okWide Tryz.prog W .any base t v := hval0
  have hW' := hW
  obtain ⟨p, q, hA0, hV, rfl, _, _⟩ := hW
  have hA : DataW.TrodAll enc Tryz.prog W 0 (fun _ => true) true Tryz.f5.params.toList args.toList ds p := hA0
  rw [Tryz.params5] at hA hval
  obtain ⟨v0, d0, rfl, rfl, h0⟩ := trodAll_one hA
  obtain ⟨rfl, rfl⟩ := trodVars_none hV
  have k0 := h0
  have lt0 : ∀ x ∈ p, x.block < W.heap.size := by obtain ⟨m, hm⟩ := k0; exact DataW.trod_lt m _ _ _ hm
  obtain ⟨x0, len0, cap0, rfl⟩ := okWide_slice Tryz.underlying22 (hval 0 22 v0 rfl rfl)
  obtain ⟨a0, _, _, r0⟩ : ∃ code : List UInt8, True ∧ True ∧ Go.Av.AVRel W (Go.Av.Old W) Go.Av.noG (.lst 1 (code.map Go.Av.F.u8row)) (.slice x0 len0 cap0) := by
    obtain ⟨z, w⟩ : ∃ zs, Go.Av.IsRow .u8 W x0 len0 cap0 zs := by
      obtain ⟨fuel, hf⟩ := k0
      rcases open_ints Tryz.underlying22 Tryz.underlying5 (by kernel_rfl) hf with ⟨hcs, _⟩ | ⟨x, l, c, zs, hcs, _, hl, hm, hz, _, hcell, hwz⟩
      · simp [Value.cells] at hcs
        obtain ⟨rfl, rfl, rfl⟩ := hcs
        exact ⟨[], .inl ⟨rfl, rfl, rfl, rfl⟩⟩
      · simp [Value.cells] at hcs
        obtain ⟨rfl, rfl, rfl⟩ := hcs
        exact ⟨zs, .inr ⟨_, rfl, hl, hm, by simpa using hz, hcell, hwz⟩⟩
    obtain ⟨code, _, _, hr⟩ := Go.Av.lst_rel (γ := Go.Av.noG) w
    exact ⟨code, trivial, trivial, hr⟩
  simp only [List.append_nil] at hW'
  refine (Go.Av.calls_below fnSendApply_body ⟨rfl, fun j hj => by
    match j, hj with
    | 0, _ => exact r0⟩ (Go.Av.bool_only true) (Go.Av.F.lawSendApplyT a0).c (fnSendApply_gl hX)).mono fun e W' ⟨he, hb⟩ => ?_
  subst he
  exact ⟨_, rfl, _, _, _, [], _, [], hW', trodAll_mk1 (shut_bool Tryz.underlying4 _), trodAll_mk1 (Below.trod fact_laidOut (by kernel_rfl) (of_decide_eq_true (by kernel_rfl)) k0 hb lt0), rfl, hb.frame _, fun h => by cases h⟩
theorem fnSendApply_k1 : (Rows.fnSendApplyRow.inPlace == Tryz.prog.inPlace 5) = true := by kernel_rfl
theorem fnSendApply_k2 : (Rows.fnSendApplyRow.unfollowed == Tryz.prog.unfollowed 5) = true := by kernel_rfl
theorem fnSendApply_k3 : (Rows.fnSendApplyRow.recurses == Tryz.prog.recurses 5) = true := by kernel_rfl
theorem fnSendApply_k4 : (Rows.fnSendApplyRow.named == Tryz.prog.varsNamed 5) = true := by kernel_rfl
theorem fnSendApply_k5 : (Rows.fnSendApplyRow.plainKeys == Tryz.prog.plainKeys) = true := by kernel_rfl
theorem fnSendApply_k6 : (Rows.fnSendApplyRow.lifted == Tryz.prog.liftsFinal) = true := by kernel_rfl
theorem fnSendApply_k7 : (Tryz.prog.make == some Rows.fnSendApplyRow.make) = true := by kernel_rfl
theorem fnSendApply_closed : joinedFacts Tryz.prog 5 Tryz.f5 Rows.fnSendApplySpec Rows.fnSendApplyRow = true := by
  unfold joinedFacts
  rw [fact_laidOut, fact_mapsRowed, fact_heard, fact_mayEnter, fnSendApply_k1, fnSendApply_k2, fnSendApply_k3, fnSendApply_k4, fnSendApply_k5, fnSendApply_k6, fnSendApply_k7]
  kernel_rfl
theorem fnSendApply_holds : Rows.FnSendApplySaid :=
  OpenClaim.holds_of_wide 5 Tryz.f5 rfl rfl rfl rfl rfl rfl rfl ⟨rfl, rfl, rfl, rfl, rfl⟩ rfl rfl rfl rfl rfl (by kernel_rfl) Tryz.func5 fnSendApply_closed
    (of_decide_eq_true (by kernel_rfl)) (by unfold Func.isWrapper; first | (rw [if_pos (by decide +kernel)]; kernel_rfl) | (rw [if_neg (by decide +kernel)]; exact ⟨rfl, rfl⟩))
    (fun os started H enc _ => fnSendApply_lifted os started H enc)
theorem fnSendApply_c1 : Rows.fnSendApplyRow.wfByText (OpenSpec.ofChange Rows.fnSendApplySpec) = true := by kernel_rfl
theorem fnSendApply_c2 : Tryz.prog.funcNamed "loop.example/palim/laws.FnSendApply" = some 5 := by kernel_rfl
theorem fnSendApply_c3 : ([22].all fun u => !Tryz.prog.wantsStandIn u) = true := by kernel_rfl
theorem fnSendApply_c4 : false = Rows.fnSendApplyRow.goesBy Tryz.pinned.checked.prog := by kernel_rfl
theorem fnSendApply_card : Rows.FnSendApplyCardSaid :=
  Claim7.holds_tied_plain_at .later [] [.data, .data, .data, .data, .sentinel, .sentinel, .pinned] true (true, "ad0d94105eb6e27317b1ac9113807a56e7b4c351d1e11cd5cd834b34e0abc181") true fnSendApply_holds (fun _ h => by cases h) fnSendApply_c1 (fun _ h => by cases h) fnSendApply_row_tie rfl ⟨rfl, rfl⟩ fact_main rfl
    (fun f fn hf hfn => by
      obtain rfl : f = 5 := Option.some.inj (fnSendApply_c2.symm.trans hf) |>.symm
      obtain rfl : fn = Tryz.f5 := (Option.some.inj (Tryz.func5.symm.trans hfn)).symm
      exact ⟨fact_looks, fun j t ht => by
        rw [Tryz.params5] at ht
        have hm : t ∈ [22] := by simpa using Array.mem_of_getElem? ht
        exact (show Tryz.prog.wantsStandIn t = false by simpa using List.all_eq_true.1 fnSendApply_c3 t hm)⟩)
    fnSendApply_c4
#print axioms fnSendApply_card
end Go.Proofs.YtffammdakbbanaaGreatDoor
end
