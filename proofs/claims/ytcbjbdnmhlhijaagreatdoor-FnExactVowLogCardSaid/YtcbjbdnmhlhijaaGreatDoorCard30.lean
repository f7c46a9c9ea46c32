/- The law of the title is proved here: it returns true for every input and leaves its arguments alone; conditions: as the given row and card say. -/
import Derived.Test.YtcbjbdnmhlhijaaGreatDoorLayAV
import Derived.Test.YtcbjbdnmhlhijaaGreatDoorRows
import Derived.Test.YtcbjbdnmhlhijaaGreatDoorTie
import Derived.Test.YtcbjbdnmhlhijaaGreatDoorCards
import Derived.ProofKit
import Derived.OpenShut
import Derived.ChangeOld
import Derived.ChangeArms
import Derived.LaidMore
import Derived.Lay
import Derived.SevenTiedAt
import Derived.Stop.Joined
import Derived.Carry
set_option linter.unusedSimpArgs false
set_option linter.unusedVariables false
set_option linter.unnecessarySimpa false
set_option maxRecDepth 100000
section
namespace Go.Proofs.YtcbjbdnmhlhijaaGreatDoor
open Go.ChangeShapes Go.WideShapes Go.ChangeAt Go.RowKit
theorem fnExactVowLog_gl {W:World} (h:laidMetH Tryz.prog Rows.fnExactVowLogRow.laid W):Go.Av.GlR W (Go.Av.Old W):=by
 rw[MakeChecks.laidMetH_plain _ _ _ (by kernel_rfl)]at h
 intro g cs hg
 unfold Go.Av.gtab at hg
 split at hg
 ·rename_i hh
  subst hh
  injection hg with hg
  subst hg
  exact Go.Av.laid_tab h (zs:=[1,10,100,1000,10000,100000,1000000,10000000,100000000,1000000000,10000000000,100000000000,1000000000000,10000000000000,100000000000000,1000000000000000,10000000000000000,100000000000000000,1000000000000000000,10000000000000000000]) (k:=.u64) (t:=397) (e:=342) (m:=20) (List.mem_of_getElem? (i:=2) rfl) (by kernel_rfl) (by kernel_rfl) Tryz.underlying397 Tryz.underlying342 (by kernel_rfl) (by kernel_rfl) (by simp)
 split at hg
 ·rename_i hh
  subst hh
  injection hg with hg
  subst hg
  exact Go.Av.laid_ifc h (t:=258) (List.mem_of_getElem? (i:=4) rfl) (by kernel_rfl) (by kernel_rfl) Tryz.underlying258
 split at hg
 ·rename_i hh
  subst hh
  injection hg with hg
  subst hg
  exact Go.Av.laid_ifc h (t:=258) (List.mem_of_getElem? (i:=5) rfl) (by kernel_rfl) (by kernel_rfl) Tryz.underlying258
 cases hg
theorem fnExactVowLog_body:Go.Av.hasBody Tryz.prog 4=true:=by kernel_rfl
set_option maxRecDepth 100000 in
theorem fnExactVowLog_lifted (os:Os) (started:os.Started) (H:Type) (enc:TypeId×Value→H) :
  ReturnsInHanded {} Tryz.checked os 4 .any (fun w args=>(Rows.fnExactVowLogSpec.pre enc Tryz.prog Tryz.f4 [] false w args∧laidMetH Tryz.prog Rows.fnExactVowLogRow.laid w)∧sizedMet enc Tryz.prog Tryz.f4 (OpenSpec.ofChange Rows.fnExactVowLogSpec) false w args)
   (Rows.fnExactVowLogSpec.post enc Tryz.prog Tryz.f4 false true false false):=by
 refine returnsInHanded_of_change_and (C:=Tryz.checked) (X:=fun w _=>laidMetH Tryz.prog Rows.fnExactVowLogRow.laid w) (fun _ _ _ hh h=>h.of_heap hh) fact_own started (by kernel_rfl) Tryz.func4
  (ChangeSpec.witness_shaped (enc:=enc) (C:=Tryz.checked) (os:=os) (X:=fun w _=>laidMetH Tryz.prog Rows.fnExactVowLogRow.laid w) false (World.laidAll Tryz.prog os Rows.fnExactVowLogRow.laid) #[.agg #[.slice none 0 0,.slice none 0 0,.slice none 0 0,.int .i64 0,.slice none 0 0,.slice none 0 0,.slice none 0 0,.bool false,.slice none 0 0,.int .i64 0,.bool false]] 8 (World.laidAll_os _ _ _)
   (World.shaped_of_ZipB (by kernel_rfl) (by kernel_rfl)) (by kernel_rfl) (by kernel_rfl) (by kernel_rfl)
   (by rw[MakeChecks.laidMetH_plain _ _ _ (by kernel_rfl)];exact laidMet_laidAll _ (by kernel_rfl) (by kernel_rfl))) ?_
 intro W base args ds gs before hval0 hW _ _ hX _
 have hval:∀ (j:Nat) t v,Tryz.f4.params[j]?=some t→args[j]?=some v→Value.okWide Tryz.prog W .any base t v:=hval0
 have hW':=hW
 obtain⟨p,q,hA0,hV,rfl,_,_⟩:=hW
 have hA:DataW.TrodAll enc Tryz.prog W 0 (fun _=>true) true Tryz.f4.params.toList args.toList ds p:=hA0
 rw[Tryz.params4]at hA hval
 obtain⟨v0,d0,rfl,rfl,h0⟩:=trodAll_one hA
 obtain⟨rfl,rfl⟩:=trodVars_none hV
 have k0:=h0
 have lt0:∀ x∈p,x.block<W.heap.size:=by obtain⟨m,hm⟩:=k0;exact DataW.trod_lt m _ _ _ hm
 obtain⟨avs0,r0,s0⟩:=Go.Av.open_st (n:=10) Tryz.underlying34 (by kernel_rfl) (hval 0 34 v0 rfl rfl) k0
 obtain⟨a0,g0,rfl⟩:=Go.Av.F.po_shp s0
 simp only[List.append_nil]at hW'
 refine(Go.Av.calls_below fnExactVowLog_body ⟨rfl,fun j hj=>by
  match j,hj with
  | 0,_=>exact r0⟩ (Go.Av.bool_only true) (Go.Av.F.lawVowLog' a0 g0).c (fnExactVowLog_gl hX)).mono fun e W' ⟨he,hb⟩=>?_
 subst he
 exact⟨_,rfl,_,_,_,[],_,[],hW',trodAll_mk1 (shut_bool Tryz.underlying4 _),trodAll_mk1 (Below.trod fact_laidOut (by kernel_rfl) (of_decide_eq_true (by kernel_rfl)) k0 hb lt0),rfl,hb.frame _,fun h=>by cases h⟩
theorem fnExactVowLog_k1:(Rows.fnExactVowLogRow.inPlace == Tryz.prog.inPlace 4)=true:=by kernel_rfl
theorem fnExactVowLog_k2:(Rows.fnExactVowLogRow.unfollowed == Tryz.prog.unfollowed 4)=true:=by kernel_rfl
theorem fnExactVowLog_k3:(Rows.fnExactVowLogRow.recurses == Tryz.prog.recurses 4)=true:=by kernel_rfl
theorem fnExactVowLog_k4:(Rows.fnExactVowLogRow.named == Tryz.prog.varsNamed 4)=true:=by kernel_rfl
theorem fnExactVowLog_k5:(Rows.fnExactVowLogRow.plainKeys == Tryz.prog.plainKeys)=true:=by kernel_rfl
theorem fnExactVowLog_k6:(Rows.fnExactVowLogRow.lifted == Tryz.prog.liftsFinal)=true:=by kernel_rfl
theorem fnExactVowLog_k7:(Tryz.prog.make == some Rows.fnExactVowLogRow.make)=true:=by kernel_rfl
theorem fnExactVowLog_closed:joinedFacts Tryz.prog 4 Tryz.f4 Rows.fnExactVowLogSpec Rows.fnExactVowLogRow=true:=by
 unfold joinedFacts
 rw[fact_laidOut,fact_mapsRowed,fact_heard,fact_mayEnter,fnExactVowLog_k1,fnExactVowLog_k2,fnExactVowLog_k3,fnExactVowLog_k4,fnExactVowLog_k5,fnExactVowLog_k6,fnExactVowLog_k7]
 kernel_rfl
theorem fnExactVowLog_holds:Rows.FnExactVowLogSaid :=
 OpenClaim.holds_of_wide 4 Tryz.f4 rfl rfl rfl rfl rfl rfl rfl ⟨rfl,rfl,rfl,rfl,rfl⟩ rfl rfl rfl rfl rfl (by kernel_rfl) Tryz.func4 fnExactVowLog_closed
  (of_decide_eq_true (by kernel_rfl)) (by unfold Func.isWrapper;first | (rw[if_pos (by decide +kernel)];kernel_rfl) | (rw[if_neg (by decide +kernel)];exact⟨rfl,rfl⟩))
  (fun os started H enc _=>fnExactVowLog_lifted os started H enc)
theorem fnExactVowLog_c1:Rows.fnExactVowLogRow.wfByText (OpenSpec.ofChange Rows.fnExactVowLogSpec)=true:=by kernel_rfl
theorem fnExactVowLog_c2:Tryz.prog.funcNamed "loop.example/palim/laws.FnExactVowLog"=some 4:=by kernel_rfl
theorem fnExactVowLog_c3:([34].all fun u=>!Tryz.prog.wantsStandIn u)=true:=by kernel_rfl
theorem fnExactVowLog_c4:false=Rows.fnExactVowLogRow.goesBy Tryz.pinned.checked.prog:=goesBy_none (by exact fact_nogo) _
theorem fnExactVowLog_card:Rows.FnExactVowLogCardSaid :=
 Claim7.holds_tied_plain_at .later [] [.data,.data,.data,.data,.sentinel,.sentinel,.pinned] true (true,"cc65649d1714594bef1c6ae0d5c90554964daf48a54f1a68d9d0a9d5f85e006a") true fnExactVowLog_holds (fun _ h=>by cases h) fnExactVowLog_c1 (fun _ h=>by cases h) fnExactVowLog_row_tie rfl ⟨rfl,rfl⟩ fact_main rfl
  (fun f fn hf hfn=>by
   obtain rfl:f=4:=Option.some.inj (fnExactVowLog_c2.symm.trans hf) |>.symm
   obtain rfl:fn=Tryz.f4:=(Option.some.inj (Tryz.func4.symm.trans hfn)).symm
   exact⟨fact_looks,fun j t ht=>by
    rw[Tryz.params4]at ht
    have hm:t∈[34]:=by simpa using Array.mem_of_getElem? ht
    exact(show Tryz.prog.wantsStandIn t=false by simpa using List.all_eq_true.1 fnExactVowLog_c3 t hm)⟩)
  fnExactVowLog_c4
#print axioms fnExactVowLog_card
end Go.Proofs.YtcbjbdnmhlhijaaGreatDoor
end
