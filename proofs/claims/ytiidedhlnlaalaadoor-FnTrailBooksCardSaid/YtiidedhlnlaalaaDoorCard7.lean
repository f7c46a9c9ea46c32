/- The law of the title is proved here: it returns true for every input and leaves its argument alone (AvCard7); conditions: as the given row and card say. -/
import Derived.Test.YtiidedhlnlaalaaDoorLayAN
import Derived.Test.YtiidedhlnlaalaaDoorRows
import Derived.Test.YtiidedhlnlaalaaDoorTie
import Derived.Test.YtiidedhlnlaalaaDoorCards
import Derived.ProofKit
import Derived.OpenShut
import Derived.ChangeOld
import Derived.LaidMore
import Derived.Lay
import Derived.SevenTiedAt
import Derived.Stop.Joined
section
namespace Go.Proofs.YtiidedhlnlaalaaDoor
open Go.ChangeShapes Go.WideShapes Go.ChangeAt Go.RowKit
set_option linter.unusedVariables false

theorem fnTrailBooks_body : Go.Av.hasBody Tryd.prog 7 = true := by kernel_rfl

/-- The call, at a slice of bytes that came in. -/
theorem fnTrailBooks_walk {a : Option Addr} {len cap : Nat} {zs : List Int} {W : World} (h : Go.Av.IsRow .u8 W a len cap zs) :
    Calls Tryd.prog 7 #[.slice a len cap] W fun e w' => e = .returned (.bool true) ∧ Below W.heap.size W w' := by
  obtain ⟨code, _, _, hr⟩ := Go.Av.lst_rel (γ := Go.Av.noG) h
  exact Go.Av.calls_below fnTrailBooks_body ⟨rfl, fun j hj => by
    obtain rfl : j = 0 := by simpa using hj
    exact hr⟩ (Go.Av.bool_only true) (Go.Av.F.fnTrailBooksC code)

set_option maxRecDepth 100000 in
theorem fnTrailBooks_lifted (os : Os) (started : os.Started) (H : Type) (enc : TypeId × Value → H) :
    ReturnsInHanded {} Tryd.checked os 7 .any (fun w args => (Rows.fnTrailBooksSpec.pre enc Tryd.prog Tryd.f7 [] false w args ∧ laidMetH Tryd.prog Rows.fnTrailBooksRow.laid w) ∧ sizedMet enc Tryd.prog Tryd.f7 (OpenSpec.ofChange Rows.fnTrailBooksSpec) false w args)
      (Rows.fnTrailBooksSpec.post enc Tryd.prog Tryd.f7 false true false false) := by
  refine returnsInHanded_of_change_and (C := Tryd.checked) (X := fun w _ => laidMetH Tryd.prog Rows.fnTrailBooksRow.laid w) (fun _ _ _ hh h => h.of_heap hh) fact_own started (by kernel_rfl) Tryd.func7
    (ChangeSpec.witness_shaped (enc := enc) (C := Tryd.checked) (os := os) (X := fun w _ => laidMetH Tryd.prog Rows.fnTrailBooksRow.laid w) false (World.laidAll Tryd.prog os Rows.fnTrailBooksRow.laid) #[.slice none 0 0] 8 (World.laidAll_os _ _ _)
      (World.shaped_of_ZipB (by kernel_rfl) (by kernel_rfl)) (by kernel_rfl) (by kernel_rfl) (by kernel_rfl)
      (by rw [MakeChecks.laidMetH_plain _ _ _ (by kernel_rfl)]; exact laidMet_laidAll _ (by kernel_rfl) (by kernel_rfl))) ?_
  intro W base args ds gs before hval0 hW _ _ _ _
  have hval : ∀ (j : Nat) t v, Tryd.f7.params[j]? = some t → args[j]? = some v → Value.okWide Tryd.prog W .any base t v := hval0
  have hW' := hW
  obtain ⟨p, q, hA0, hV, rfl, _, _⟩ := hW
  have hA : DataW.TrodAll enc Tryd.prog W 0 (fun _ => true) true Tryd.f7.params.toList args.toList ds p := hA0
  rw [Tryd.params7] at hA hval
  obtain ⟨v0, d0, rfl, rfl, h0⟩ := trodAll_one hA
  obtain ⟨rfl, rfl⟩ := trodVars_none hV
  obtain ⟨a0, len0, cap0, rfl⟩ := okWide_slice Tryd.underlying22 (hval 0 22 v0 rfl rfl)
  have k0 := h0
  have lt0 : ∀ x ∈ p, x.block < W.heap.size := by obtain ⟨m, hm⟩ := k0; exact DataW.trod_lt m _ _ _ hm
  obtain ⟨z0, w0⟩ : ∃ zs, Go.Av.IsRow .u8 W a0 len0 cap0 zs := by
    obtain ⟨fuel, hf⟩ := h0
    rcases open_ints Tryd.underlying22 Tryd.underlying5 (by kernel_rfl) hf with ⟨hcs, _⟩ | ⟨x, l, c, zs, hcs, _, hl, hm, hz, _, hcell, hwz⟩
    · simp [Value.cells] at hcs
      obtain ⟨rfl, rfl, rfl⟩ := hcs
      exact ⟨[], .inl ⟨rfl, rfl, rfl, rfl⟩⟩
    · simp [Value.cells] at hcs
      obtain ⟨rfl, rfl, rfl⟩ := hcs
      exact ⟨zs, .inr ⟨_, rfl, hl, hm, by simpa using hz, hcell, hwz⟩⟩
  simp only [List.append_nil] at hW'
  refine (fnTrailBooks_walk w0).mono fun e W' ⟨he, hb⟩ => ?_
  subst he
  exact ⟨_, rfl, _, _, _, [], _, [], hW', trodAll_mk1 (shut_bool Tryd.underlying4 _), trodAll_mk1 (Below.trod fact_laidOut (by kernel_rfl) (of_decide_eq_true (by kernel_rfl)) k0 hb lt0), rfl, hb.frame _, fun h => by cases h⟩

theorem fnTrailBooks_k1 : (Rows.fnTrailBooksRow.inPlace == Tryd.prog.inPlace 7) = true := by kernel_rfl
theorem fnTrailBooks_k2 : (Rows.fnTrailBooksRow.unfollowed == Tryd.prog.unfollowed 7) = true := by kernel_rfl
theorem fnTrailBooks_k3 : (Rows.fnTrailBooksRow.recurses == Tryd.prog.recurses 7) = true := by kernel_rfl
theorem fnTrailBooks_k4 : (Rows.fnTrailBooksRow.named == Tryd.prog.varsNamed 7) = true := by kernel_rfl
theorem fnTrailBooks_k5 : (Rows.fnTrailBooksRow.plainKeys == Tryd.prog.plainKeys) = true := by kernel_rfl
theorem fnTrailBooks_k6 : (Rows.fnTrailBooksRow.lifted == Tryd.prog.liftsFinal) = true := by kernel_rfl
theorem fnTrailBooks_k7 : (Tryd.prog.make == some Rows.fnTrailBooksRow.make) = true := by kernel_rfl
theorem fnTrailBooks_closed : joinedFacts Tryd.prog 7 Tryd.f7 Rows.fnTrailBooksSpec Rows.fnTrailBooksRow = true := by
  unfold joinedFacts
  rw [fact_laidOut, fact_mapsRowed, fact_heard, fact_mayEnter, fnTrailBooks_k1, fnTrailBooks_k2, fnTrailBooks_k3, fnTrailBooks_k4, fnTrailBooks_k5, fnTrailBooks_k6, fnTrailBooks_k7]
  kernel_rfl
theorem fnTrailBooks_holds : Rows.FnTrailBooksSaid :=
  OpenClaim.holds_of_wide 7 Tryd.f7 rfl rfl rfl rfl rfl rfl rfl ⟨rfl, rfl, rfl, rfl, rfl⟩ rfl rfl rfl rfl rfl (by kernel_rfl) Tryd.func7 fnTrailBooks_closed
    (of_decide_eq_true (by kernel_rfl)) (by unfold Func.isWrapper; first | (rw [if_pos (by decide +kernel)]; kernel_rfl) | (rw [if_neg (by decide +kernel)]; exact ⟨rfl, rfl⟩))
    (fun os started H enc _ => fnTrailBooks_lifted os started H enc)

theorem fnTrailBooks_c1 : Rows.fnTrailBooksRow.wfByText (OpenSpec.ofChange Rows.fnTrailBooksSpec) = true := by kernel_rfl
theorem fnTrailBooks_c2 : Tryd.prog.funcNamed "loop.example/palim/laws.FnTrailBooks" = some 7 := by kernel_rfl
theorem fnTrailBooks_c3 : ([22].all fun u => !Tryd.prog.wantsStandIn u) = true := by kernel_rfl
theorem fnTrailBooks_c4 : false = Rows.fnTrailBooksRow.goesBy Tryd.pinned.checked.prog := by kernel_rfl
theorem fnTrailBooks_card : Rows.FnTrailBooksCardSaid :=
  Claim7.holds_tied_plain_at .later [] [.data, .pinned] true (true, "2c87a6b6aad5d6925286b7b8337d65ec16c4c216255dd393ccb0f40eda3f2dd0") true fnTrailBooks_holds (fun _ h => by cases h) fnTrailBooks_c1 (fun _ h => by cases h) fnTrailBooks_row_tie rfl ⟨rfl, rfl⟩ fact_main rfl
    (fun f fn hf hfn => by
      obtain rfl : f = 7 := Option.some.inj (fnTrailBooks_c2.symm.trans hf) |>.symm
      obtain rfl : fn = Tryd.f7 := (Option.some.inj (Tryd.func7.symm.trans hfn)).symm
      exact ⟨fact_looks, fun j t ht => by
        rw [Tryd.params7] at ht
        have hm : t ∈ [22] := by simpa using Array.mem_of_getElem? ht
        exact (show Tryd.prog.wantsStandIn t = false by simpa using List.all_eq_true.1 fnTrailBooks_c3 t hm)⟩)
    fnTrailBooks_c4
#print axioms fnTrailBooks_card
end Go.Proofs.YtiidedhlnlaalaaDoor
end
