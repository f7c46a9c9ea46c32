/- The law of the title is proved here: it returns true for every input and leaves its arguments alone; conditions: as the given row and card say. -/
import Derived.Test.YtbdklnphnibfiaaDoorLayAO
import Derived.Test.YtbdklnphnibfiaaDoorRows
import Derived.Test.YtbdklnphnibfiaaDoorTie
import Derived.Test.YtbdklnphnibfiaaDoorCards
import Derived.ProofKit
import Derived.OpenShut
import Derived.ChangeOld
import Derived.ChangeArms
import Derived.LaidMore
import Derived.Lay
import Derived.SevenTiedAt
import Derived.Stop.Joined
import Derived.Carry
set_option linter.unusedSimpArgs false
set_option linter.unusedVariables false
set_option linter.unnecessarySimpa false
set_option maxRecDepth 100000
section
namespace Go.Proofs.YtbdklnphnibfiaaDoor
open Go.ChangeShapes Go.WideShapes Go.ChangeAt Go.RowKit
theorem fnExactTrailBooks_body:Go.Av.hasBody Tryd.prog 3=true:=by kernel_rfl
set_option maxRecDepth 100000 in
theorem fnExactTrailBooks_lifted (os:Os) (started:os.Started) (H:Type) (enc:TypeId×Value→H) :
  ReturnsInHanded {} Tryd.checked os 3 .any (fun w args=>(Rows.fnExactTrailBooksSpec.pre enc Tryd.prog Tryd.f3 [] false w args∧laidMetH Tryd.prog Rows.fnExactTrailBooksRow.laid w)∧sizedMet enc Tryd.prog Tryd.f3 (OpenSpec.ofChange Rows.fnExactTrailBooksSpec) false w args)
   (Rows.fnExactTrailBooksSpec.post enc Tryd.prog Tryd.f3 false true false false):=by
 refine returnsInHanded_of_change_and (C:=Tryd.checked) (X:=fun w _=>laidMetH Tryd.prog Rows.fnExactTrailBooksRow.laid w) (fun _ _ _ hh h=>h.of_heap hh) fact_own started (by kernel_rfl) Tryd.func3
  (ChangeSpec.witness_shaped (enc:=enc) (C:=Tryd.checked) (os:=os) (X:=fun w _=>laidMetH Tryd.prog Rows.fnExactTrailBooksRow.laid w) false (World.laidAll Tryd.prog os Rows.fnExactTrailBooksRow.laid) #[.agg #[.slice none 0 0,.slice none 0 0,.int .i64 0]] 8 (World.laidAll_os _ _ _)
   (World.shaped_of_ZipB (by kernel_rfl) (by kernel_rfl)) (by kernel_rfl) (by kernel_rfl) (by kernel_rfl)
   (by rw[MakeChecks.laidMetH_plain _ _ _ (by kernel_rfl)];exact laidMet_laidAll _ (by kernel_rfl) (by kernel_rfl))) ?_
 intro W base args ds gs before hval0 hW _ _ hX _
 have hval:∀ (j:Nat) t v,Tryd.f3.params[j]?=some t→args[j]?=some v→Value.okWide Tryd.prog W .any base t v:=hval0
 have hW':=hW
 obtain⟨p,q,hA0,hV,rfl,_,_⟩:=hW
 have hA:DataW.TrodAll enc Tryd.prog W 0 (fun _=>true) true Tryd.f3.params.toList args.toList ds p:=hA0
 rw[Tryd.params3]at hA hval
 obtain⟨v0,d0,rfl,rfl,h0⟩:=trodAll_one hA
 obtain⟨rfl,rfl⟩:=trodVars_none hV
 have k0:=h0
 have lt0:∀ x∈p,x.block<W.heap.size:=by obtain⟨m,hm⟩:=k0;exact DataW.trod_lt m _ _ _ hm
 obtain⟨avs0,r0,s0⟩:=Go.Av.open_st (n:=9) Tryd.underlying27 (by kernel_rfl) (hval 0 27 v0 rfl rfl) k0
 obtain⟨a0,g0,rfl⟩:=Go.Av.F.tr_shp s0
 simp only[List.append_nil]at hW'
 refine(Go.Av.calls_below fnExactTrailBooks_body ⟨rfl,fun j hj=>by
  match j,hj with
  | 0,_=>exact r0⟩ (Go.Av.bool_only true) (Go.Av.F.lawTrailBooks a0 g0).c (fun g cs hg=>by unfold Go.Av.gtab at hg;cases hg)).mono fun e W' ⟨he,hb⟩=>?_
 subst he
 exact⟨_,rfl,_,_,_,[],_,[],hW',trodAll_mk1 (shut_bool Tryd.underlying4 _),trodAll_mk1 (Below.trod fact_laidOut (by kernel_rfl) (of_decide_eq_true (by kernel_rfl)) k0 hb lt0),rfl,hb.frame _,fun h=>by cases h⟩
theorem fnExactTrailBooks_k1:(Rows.fnExactTrailBooksRow.inPlace == Tryd.prog.inPlace 3)=true:=by kernel_rfl
theorem fnExactTrailBooks_k2:(Rows.fnExactTrailBooksRow.unfollowed == Tryd.prog.unfollowed 3)=true:=by kernel_rfl
theorem fnExactTrailBooks_k3:(Rows.fnExactTrailBooksRow.recurses == Tryd.prog.recurses 3)=true:=by kernel_rfl
theorem fnExactTrailBooks_k4:(Rows.fnExactTrailBooksRow.named == Tryd.prog.varsNamed 3)=true:=by kernel_rfl
theorem fnExactTrailBooks_k5:(Rows.fnExactTrailBooksRow.plainKeys == Tryd.prog.plainKeys)=true:=by kernel_rfl
theorem fnExactTrailBooks_k6:(Rows.fnExactTrailBooksRow.lifted == Tryd.prog.liftsFinal)=true:=by kernel_rfl
theorem fnExactTrailBooks_k7:(Tryd.prog.make == some Rows.fnExactTrailBooksRow.make)=true:=by kernel_rfl
theorem fnExactTrailBooks_closed:joinedFacts Tryd.prog 3 Tryd.f3 Rows.fnExactTrailBooksSpec Rows.fnExactTrailBooksRow=true:=by
 unfold joinedFacts
 rw[fact_laidOut,fact_mapsRowed,fact_heard,fact_mayEnter,fnExactTrailBooks_k1,fnExactTrailBooks_k2,fnExactTrailBooks_k3,fnExactTrailBooks_k4,fnExactTrailBooks_k5,fnExactTrailBooks_k6,fnExactTrailBooks_k7]
 kernel_rfl
theorem fnExactTrailBooks_holds:Rows.FnExactTrailBooksSaid :=
 OpenClaim.holds_of_wide 3 Tryd.f3 rfl rfl rfl rfl rfl rfl rfl ⟨rfl,rfl,rfl,rfl,rfl⟩ rfl rfl rfl rfl rfl (by kernel_rfl) Tryd.func3 fnExactTrailBooks_closed
  (of_decide_eq_true (by kernel_rfl)) (by unfold Func.isWrapper;first | (rw[if_pos (by decide +kernel)];kernel_rfl) | (rw[if_neg (by decide +kernel)];exact⟨rfl,rfl⟩))
  (fun os started H enc _=>fnExactTrailBooks_lifted os started H enc)
theorem fnExactTrailBooks_c1:Rows.fnExactTrailBooksRow.wfByText (OpenSpec.ofChange Rows.fnExactTrailBooksSpec)=true:=by kernel_rfl
theorem fnExactTrailBooks_c2:Tryd.prog.funcNamed "loop.example/palim/laws.FnExactTrailBooks"=some 3:=by kernel_rfl
theorem fnExactTrailBooks_c3:([27].all fun u=>!Tryd.prog.wantsStandIn u)=true:=by kernel_rfl
theorem fnExactTrailBooks_c4:false=Rows.fnExactTrailBooksRow.goesBy Tryd.pinned.checked.prog:=goesBy_none (by exact fact_nogo) _
theorem fnExactTrailBooks_card:Rows.FnExactTrailBooksCardSaid :=
 Claim7.holds_tied_plain_at .later [] [.data,.pinned] true (true,"a67ba4b7298801f2c3e4e64e462f9982f82466d5bd896d97c72fc21448b91f89") false fnExactTrailBooks_holds (fun _ h=>by cases h) fnExactTrailBooks_c1 (fun _ h=>by cases h) fnExactTrailBooks_row_tie rfl ⟨rfl,rfl⟩ fact_main rfl
  (fun f fn hf hfn=>by
   obtain rfl:f=3:=Option.some.inj (fnExactTrailBooks_c2.symm.trans hf) |>.symm
   obtain rfl:fn=Tryd.f3:=(Option.some.inj (Tryd.func3.symm.trans hfn)).symm
   exact⟨fact_looks,fun j t ht=>by
    rw[Tryd.params3]at ht
    have hm:t∈[27]:=by simpa using Array.mem_of_getElem? ht
    exact(show Tryd.prog.wantsStandIn t=false by simpa using List.all_eq_true.1 fnExactTrailBooks_c3 t hm)⟩)
  fnExactTrailBooks_c4
#print axioms fnExactTrailBooks_card
end Go.Proofs.YtbdklnphnibfiaaDoor
end
