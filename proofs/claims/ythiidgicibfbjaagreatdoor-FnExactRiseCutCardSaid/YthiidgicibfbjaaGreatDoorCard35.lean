/- The law of the title is proved here: it returns true for every input and leaves its arguments alone; conditions: as the given row and card say. -/
import Derived.Test.YthiidgicibfbjaaGreatDoorLayAX
import Derived.Test.YthiidgicibfbjaaGreatDoorRows
import Derived.Test.YthiidgicibfbjaaGreatDoorTie
import Derived.Test.YthiidgicibfbjaaGreatDoorCards
import Derived.ProofKit
import Derived.OpenShut
import Derived.ChangeOld
import Derived.ChangeArms
import Derived.LaidMore
import Derived.Lay
import Derived.SevenTiedAt
import Derived.Stop.Joined
import Derived.Carry
set_option linter.unusedSimpArgs false
set_option linter.unusedVariables false
set_option linter.unnecessarySimpa false
set_option maxRecDepth 100000
section
namespace Go.Proofs.YthiidgicibfbjaaGreatDoor
open Go.ChangeShapes Go.WideShapes Go.ChangeAt Go.RowKit
theorem qgP {W:World} (h:laidMetH Tryz.prog Rows.fnExactRiseCutRow.laid W):Go.Av.GlR W (Go.Av.Old W):=by
 rw[MakeChecks.laidMetH_plain _ _ _ (by kernel_rfl)]at h;intro g cs hg;unfold Go.Av.gtab at hg;split at hg
 ·rename_i hh;subst hh;injection hg with hg;subst hg;exact Go.Av.laid_tab h (zs:=[1,10,100,1000,10000,100000,1000000,10000000,100000000,1000000000,10000000000,100000000000,1000000000000,10000000000000,100000000000000,1000000000000000,10000000000000000,100000000000000000,1000000000000000000,10000000000000000000]) (k:=.u64) (t:=381) (e:=316) (m:=20) (List.mem_of_getElem? (i:=2) rfl) (by kernel_rfl) (by kernel_rfl) Tryz.underlying381 Tryz.underlying316 (by kernel_rfl) (by kernel_rfl) (by simp)
 split at hg
 ·rename_i hh;subst hh;injection hg with hg;subst hg;exact Go.Av.laid_ifc h (t:=262) (List.mem_of_getElem? (i:=4) rfl) (by kernel_rfl) (by kernel_rfl) Tryz.underlying262
 split at hg
 ·rename_i hh;subst hh;injection hg with hg;subst hg;exact Go.Av.laid_ifc h (t:=262) (List.mem_of_getElem? (i:=5) rfl) (by kernel_rfl) (by kernel_rfl) Tryz.underlying262
 cases hg
theorem qfG:Go.Av.hasBody Tryz.prog 4=true:=by kernel_rfl
set_option maxRecDepth 100000 in
theorem qeU (os:Os) (started:os.Started) (H:Type) (enc:TypeId×Value→H) :
  ReturnsInHanded {} Tryz.checked os 4 .any (fun w args=>(Rows.fnExactRiseCutSpec.pre enc Tryz.prog Tryz.f4 [] false w args∧laidMetH Tryz.prog Rows.fnExactRiseCutRow.laid w)∧sizedMet enc Tryz.prog Tryz.f4 (OpenSpec.ofChange Rows.fnExactRiseCutSpec) false w args)
   (Rows.fnExactRiseCutSpec.post enc Tryz.prog Tryz.f4 false true false false):=by
 refine returnsInHanded_of_change_and (C:=Tryz.checked) (X:=fun w _=>laidMetH Tryz.prog Rows.fnExactRiseCutRow.laid w) (fun _ _ _ hh h=>h.of_heap hh) qtm started (by kernel_rfl) Tryz.func4
  (ChangeSpec.witness_shaped (enc:=enc) (C:=Tryz.checked) (os:=os) (X:=fun w _=>laidMetH Tryz.prog Rows.fnExactRiseCutRow.laid w) false (World.laidAll Tryz.prog os Rows.fnExactRiseCutRow.laid) #[.agg #[.slice none 0 0,.slice none 0 0,.slice none 0 0],.int .i64 0,.slice none 0 0] 8 (World.laidAll_os _ _ _)
   (World.shaped_of_ZipB (by kernel_rfl) (by kernel_rfl)) (by kernel_rfl) (by kernel_rfl) (by kernel_rfl)
   (by rw[MakeChecks.laidMetH_plain _ _ _ (by kernel_rfl)];exact laidMet_laidAll _ (by kernel_rfl) (by kernel_rfl))) ?_
 intro W base args ds gs before hval0 hW _ _ hX _;have hval:∀ (j:Nat) t v,Tryz.f4.params[j]?=some t→args[j]?=some v→Value.okWide Tryz.prog W .any base t v:=hval0;have hW':=hW;obtain⟨p,q,hA0,hV,rfl,_,_⟩:=hW;have hA:DataW.TrodAll enc Tryz.prog W 0 (fun _=>true) true Tryz.f4.params.toList args.toList ds p:=hA0;rw[Tryz.params4]at hA hval;obtain⟨v0,v1,v2,d0,d1,d2,p0,p1,p2,rfl,rfl,rfl,h0,h1,h2⟩:=trodAll_three hA;obtain⟨rfl,rfl⟩:=trodVars_none hV;have k0:=h0;have lt0:∀ x∈p0,x.block<W.heap.size:=by obtain⟨m,hm⟩:=k0;exact DataW.trod_lt m _ _ _ hm
 have k1:=h1;have lt1:∀ x∈p1,x.block<W.heap.size:=by obtain⟨m,hm⟩:=k1;exact DataW.trod_lt m _ _ _ hm
 have k2:=h2;have lt2:∀ x∈p2,x.block<W.heap.size:=by obtain⟨m,hm⟩:=k2;exact DataW.trod_lt m _ _ _ hm
 obtain⟨avs0,r0,s0⟩:=Go.Av.open_st (n:=10) Tryz.underlying26 (by kernel_rfl) (hval 0 26 v0 rfl rfl) k0;obtain⟨a0,g0,rfl⟩:=Go.Av.F.dkA_shp s0;obtain⟨a1,g1,r1⟩:=Go.Av.open_i64 Tryz.underlying3 (hval 1 3 v1 rfl rfl) k1;obtain⟨a2,g2,r2⟩:=Go.Av.F.open_ints (hval 2 35 v2 rfl rfl) k2;simp only[List.append_nil,List.append_assoc]at hW';refine(Go.Av.calls_below qfG ⟨rfl,fun j hj=>by
  match j,hj with
  | 0,_=>exact r0
  | 1,_=>exact r1
  | 2,_=>exact r2⟩ (Go.Av.bool_only true) (Go.Av.F.lawRiseCut a0 a1 a2 g0 g2).c (qgP hX)).mono fun e W' ⟨he,hb⟩=>?_
 subst he;exact⟨_,rfl,_,_,_,[],_,[],hW',trodAll_mk1 (shut_bool Tryz.underlying4 _),trodAll_mk3 (Below.trod qdM (by kernel_rfl) (of_decide_eq_true (by kernel_rfl)) k0 hb lt0) (Below.trod qdM (by kernel_rfl) (of_decide_eq_true (by kernel_rfl)) k1 hb lt1) (Below.trod qdM (by kernel_rfl) (of_decide_eq_true (by kernel_rfl)) k2 hb lt2),rfl,hb.frame _,fun h=>by cases h⟩
theorem qgO:(Rows.fnExactRiseCutRow.inPlace == Tryz.prog.inPlace 4)=true:=by kernel_rfl
theorem qgN:(Rows.fnExactRiseCutRow.unfollowed == Tryz.prog.unfollowed 4)=true:=by kernel_rfl
theorem qgM:(Rows.fnExactRiseCutRow.recurses == Tryz.prog.recurses 4)=true:=by kernel_rfl
theorem qgL:(Rows.fnExactRiseCutRow.named == Tryz.prog.varsNamed 4)=true:=by kernel_rfl
theorem qgK:(Rows.fnExactRiseCutRow.plainKeys == Tryz.prog.plainKeys)=true:=by kernel_rfl
theorem qgJ:(Rows.fnExactRiseCutRow.lifted == Tryz.prog.liftsFinal)=true:=by kernel_rfl
theorem qgI:(Tryz.prog.make == some Rows.fnExactRiseCutRow.make)=true:=by kernel_rfl
theorem qeV:joinedFacts Tryz.prog 4 Tryz.f4 Rows.fnExactRiseCutSpec Rows.fnExactRiseCutRow=true:=by
 unfold joinedFacts;rw[qdM,qi2,qpg,qkt,qgO,qgN,qgM,qgL,qgK,qgJ,qgI]
 kernel_rfl
theorem qfh:Rows.FnExactRiseCutSaid :=
 OpenClaim.holds_of_wide 4 Tryz.f4 rfl rfl rfl rfl rfl rfl rfl ⟨rfl,rfl,rfl,rfl,rfl⟩ rfl rfl rfl rfl rfl (by kernel_rfl) Tryz.func4 qeV
  (of_decide_eq_true (by kernel_rfl)) (by unfold Func.isWrapper;first | (rw[if_pos (by decide +kernel)];kernel_rfl) | (rw[if_neg (by decide +kernel)];exact⟨rfl,rfl⟩))
  (fun os started H enc _=>qeU os started H enc)
theorem qgS:Rows.fnExactRiseCutRow.wfByText (OpenSpec.ofChange Rows.fnExactRiseCutSpec)=true:=by kernel_rfl
theorem fnExactRiseCut_c2:Tryz.prog.funcNamed "loop.example/palim/laws.FnExactRiseCut"=some 4:=by kernel_rfl
theorem qgR:([26,3,35].all fun u=>!Tryz.prog.wantsStandIn u)=true:=by kernel_rfl
theorem qgQ:false=Rows.fnExactRiseCutRow.goesBy Tryz.pinned.checked.prog:=qmW (by exact qrH) _
theorem fnExactRiseCut_card:Rows.FnExactRiseCutCardSaid :=
 Claim7.holds_tied_plain_at .later [] [.data,.data,.data,.data,.sentinel,.sentinel,.pinned] true (true,"94ddc6106c0e87da7f990659e475fcd9fa75f92a8b1a5b1f9337df2f6a15a156") true qfh (fun _ h=>by cases h) qgS (fun _ h=>by cases h) fnExactRiseCut_row_tie rfl ⟨rfl,rfl⟩ qrI rfl
  (fun f fn hf hfn=>by
   obtain rfl:f=4:=Option.some.inj (fnExactRiseCut_c2.symm.trans hf) |>.symm;obtain rfl:fn=Tryz.f4:=(Option.some.inj (Tryz.func4.symm.trans hfn)).symm;exact⟨qpf,fun j t ht=>by
    rw[Tryz.params4]at ht;have hm:t∈[26,3,35]:=by simpa using Array.mem_of_getElem? ht
    exact(show Tryz.prog.wantsStandIn t=false by simpa using List.all_eq_true.1 qgR t hm)⟩)
  qgQ
#print axioms fnExactRiseCut_card
end Go.Proofs.YthiidgicibfbjaaGreatDoor
end
