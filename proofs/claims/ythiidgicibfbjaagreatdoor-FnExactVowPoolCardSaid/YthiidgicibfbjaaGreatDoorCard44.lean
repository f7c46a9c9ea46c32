/- The law of the title is proved here: it returns true for every input and leaves its arguments alone; conditions: as the given row and card say. -/
import Derived.Test.YthiidgicibfbjaaGreatDoorLayAY
import Derived.Test.YthiidgicibfbjaaGreatDoorRows
import Derived.Test.YthiidgicibfbjaaGreatDoorTie
import Derived.Test.YthiidgicibfbjaaGreatDoorCards
import Derived.ProofKit
import Derived.OpenShut
import Derived.ChangeOld
import Derived.ChangeArms
import Derived.LaidMore
import Derived.Lay
import Derived.SevenTiedAt
import Derived.Stop.Joined
import Derived.Carry
set_option linter.unusedSimpArgs false
set_option linter.unusedVariables false
set_option linter.unnecessarySimpa false
set_option maxRecDepth 100000
set_option maxHeartbeats 400000
section
namespace Go.Proofs.YthiidgicibfbjaaGreatDoor
open Go.ChangeShapes Go.WideShapes Go.ChangeAt Go.RowKit
theorem qg7 {W:World} (h:laidMetH Tryz.prog Rows.fnExactVowPoolRow.laid W):Go.Av.GlR W (Go.Av.Old W):=by
 rw[MakeChecks.laidMetH_plain _ _ _ (by kernel_rfl)]at h;intro g cs hg;unfold Go.Av.gtab at hg;split at hg
 ·rename_i hh;subst hh;injection hg with hg;subst hg;exact Go.Av.laid_tab h (zs:=[1,10,100,1000,10000,100000,1000000,10000000,100000000,1000000000,10000000000,100000000000,1000000000000,10000000000000,100000000000000,1000000000000000,10000000000000000,100000000000000000,1000000000000000000,10000000000000000000]) (k:=.u64) (t:=381) (e:=316) (m:=20) (List.mem_of_getElem? (i:=2) rfl) (by kernel_rfl) (by kernel_rfl) Tryz.underlying381 Tryz.underlying316 (by kernel_rfl) (by kernel_rfl) (by simp)
 split at hg
 ·rename_i hh;subst hh;injection hg with hg;subst hg;exact Go.Av.laid_ifc h (t:=262) (List.mem_of_getElem? (i:=4) rfl) (by kernel_rfl) (by kernel_rfl) Tryz.underlying262
 split at hg
 ·rename_i hh;subst hh;injection hg with hg;subst hg;exact Go.Av.laid_ifc h (t:=262) (List.mem_of_getElem? (i:=5) rfl) (by kernel_rfl) (by kernel_rfl) Tryz.underlying262
 cases hg
theorem qfU:Go.Av.hasBody Tryz.prog 6=true:=by kernel_rfl
set_option maxRecDepth 100000 in
theorem qe6 (os:Os) (started:os.Started) (H:Type) (enc:TypeId×Value→H) :
  ReturnsInHanded {} Tryz.checked os 6 .any (fun w args=>(Rows.fnExactVowPoolSpec.pre enc Tryz.prog Tryz.f6 [] false w args∧laidMetH Tryz.prog Rows.fnExactVowPoolRow.laid w)∧sizedMet enc Tryz.prog Tryz.f6 (OpenSpec.ofChange Rows.fnExactVowPoolSpec) false w args)
   (Rows.fnExactVowPoolSpec.post enc Tryz.prog Tryz.f6 false true false false):=by
 refine returnsInHanded_of_change_and (C:=Tryz.checked) (X:=fun w _=>laidMetH Tryz.prog Rows.fnExactVowPoolRow.laid w) (fun _ _ _ hh h=>h.of_heap hh) que started (by kernel_rfl) Tryz.func6
  (ChangeSpec.witness_shaped (enc:=enc) (C:=Tryz.checked) (os:=os) (X:=fun w _=>laidMetH Tryz.prog Rows.fnExactVowPoolRow.laid w) false (World.laidAll Tryz.prog os Rows.fnExactVowPoolRow.laid) #[.agg #[.slice none 0 0,.slice none 0 0,.slice none 0 0,.int .i64 0,.slice none 0 0,.slice none 0 0,.slice none 0 0,.bool false,.slice none 0 0,.int .i64 0,.bool false]] 8 (World.laidAll_os _ _ _)
   (World.shaped_of_ZipB (by kernel_rfl) (by kernel_rfl)) (by kernel_rfl) (by kernel_rfl) (by kernel_rfl)
   (by rw[MakeChecks.laidMetH_plain _ _ _ (by kernel_rfl)];exact laidMet_laidAll _ (by kernel_rfl) (by kernel_rfl))) ?_
 intro W base args ds gs before hval0 hW _ _ hX _;have hval:∀ (j:Nat) t v,Tryz.f6.params[j]?=some t→args[j]?=some v→Value.okWide Tryz.prog W .any base t v:=hval0;have hW':=hW;obtain⟨p,q,hA0,hV,rfl,_,_⟩:=hW;have hA:DataW.TrodAll enc Tryz.prog W 0 (fun _=>true) true Tryz.f6.params.toList args.toList ds p:=hA0;rw[Tryz.params6]at hA hval;obtain⟨v0,d0,rfl,rfl,h0⟩:=trodAll_one hA;obtain⟨rfl,rfl⟩:=trodVars_none hV;have k0:=h0;have lt0:∀ x∈p,x.block<W.heap.size:=by obtain⟨m,hm⟩:=k0;exact DataW.trod_lt m _ _ _ hm
 obtain⟨avs0,r0,s0⟩:=Go.Av.open_st (n:=10) Tryz.underlying59 (by kernel_rfl) (hval 0 59 v0 rfl rfl) k0;obtain⟨a0,g0,rfl⟩:=Go.Av.F.po_shp s0;simp only[List.append_nil]at hW';refine(Go.Av.calls_below qfU ⟨rfl,fun j hj=>by
  match j,hj with
  | 0,_=>exact r0⟩ (Go.Av.bool_only true) (Go.Av.F.qxG a0 g0).c (qg7 hX)).mono fun e W' ⟨he,hb⟩=>?_
 subst he;exact⟨_,rfl,_,_,_,[],_,[],hW',trodAll_mk1 (shut_bool Tryz.underlying4 _),trodAll_mk1 (Below.trod qhC (by kernel_rfl) (of_decide_eq_true (by kernel_rfl)) k0 hb lt0),rfl,hb.frame _,fun h=>by cases h⟩
theorem qg6:(Rows.fnExactVowPoolRow.inPlace == Tryz.prog.inPlace 6)=true:=by kernel_rfl
theorem qg5:(Rows.fnExactVowPoolRow.unfollowed == Tryz.prog.unfollowed 6)=true:=by kernel_rfl
theorem qg4:(Rows.fnExactVowPoolRow.recurses == Tryz.prog.recurses 6)=true:=by kernel_rfl
theorem qg3:(Rows.fnExactVowPoolRow.named == Tryz.prog.varsNamed 6)=true:=by kernel_rfl
theorem qg2:(Rows.fnExactVowPoolRow.plainKeys == Tryz.prog.plainKeys)=true:=by kernel_rfl
theorem qg1:(Rows.fnExactVowPoolRow.lifted == Tryz.prog.liftsFinal)=true:=by kernel_rfl
theorem qg0:(Tryz.prog.make == some Rows.fnExactVowPoolRow.make)=true:=by kernel_rfl
theorem qe7:joinedFacts Tryz.prog 6 Tryz.f6 Rows.fnExactVowPoolSpec Rows.fnExactVowPoolRow=true:=by
 unfold joinedFacts;rw[qhC,qjm,qpT,qkU,qg6,qg5,qg4,qg3,qg2,qg1,qg0]
 kernel_rfl
theorem qfw:Rows.FnExactVowPoolSaid :=
 OpenClaim.holds_of_wide 6 Tryz.f6 rfl rfl rfl rfl rfl rfl rfl ⟨rfl,rfl,rfl,rfl,rfl⟩ rfl rfl rfl rfl rfl (by kernel_rfl) Tryz.func6 qe7
  (of_decide_eq_true (by kernel_rfl)) (by unfold Func.isWrapper;first | (rw[if_pos (by decide +kernel)];kernel_rfl) | (rw[if_neg (by decide +kernel)];exact⟨rfl,rfl⟩))
  (fun os started H enc _=>qe6 os started H enc)
theorem qha:Rows.fnExactVowPoolRow.wfByText (OpenSpec.ofChange Rows.fnExactVowPoolSpec)=true:=by kernel_rfl
theorem fnExactVowPool_c2:Tryz.prog.funcNamed "loop.example/palim/laws.FnExactVowPool"=some 6:=by kernel_rfl
theorem qg9:([59].all fun u=>!Tryz.prog.wantsStandIn u)=true:=by kernel_rfl
theorem qg8:false=Rows.fnExactVowPoolRow.goesBy Tryz.pinned.checked.prog:=qnt (by exact qsn) _
theorem fnExactVowPool_card:Rows.FnExactVowPoolCardSaid :=
 Claim7.holds_tied_plain_at .later [] [.data,.data,.data,.data,.sentinel,.sentinel,.pinned] true (true,"94ddc6106c0e87da7f990659e475fcd9fa75f92a8b1a5b1f9337df2f6a15a156") true qfw (fun _ h=>by cases h) qha (fun _ h=>by cases h) fnExactVowPool_row_tie rfl ⟨rfl,rfl⟩ qso rfl
  (fun f fn hf hfn=>by
   obtain rfl:f=6:=Option.some.inj (fnExactVowPool_c2.symm.trans hf) |>.symm;obtain rfl:fn=Tryz.f6:=(Option.some.inj (Tryz.func6.symm.trans hfn)).symm;exact⟨qpS,fun j t ht=>by
    rw[Tryz.params6]at ht;have hm:t∈[59]:=by simpa using Array.mem_of_getElem? ht
    exact(show Tryz.prog.wantsStandIn t=false by simpa using List.all_eq_true.1 qg9 t hm)⟩)
  qg8
#print axioms fnExactVowPool_card
end Go.Proofs.YthiidgicibfbjaaGreatDoor
end
