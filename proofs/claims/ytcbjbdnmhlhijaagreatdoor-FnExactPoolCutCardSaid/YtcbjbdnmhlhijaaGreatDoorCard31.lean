/- The law of the title is proved here: it returns true for every input and leaves its arguments alone; conditions: as the given row and card say. -/
import Derived.Test.YtcbjbdnmhlhijaaGreatDoorLayAX
import Derived.Test.YtcbjbdnmhlhijaaGreatDoorRows
import Derived.Test.YtcbjbdnmhlhijaaGreatDoorTie
import Derived.Test.YtcbjbdnmhlhijaaGreatDoorCards
import Derived.ProofKit
import Derived.OpenShut
import Derived.ChangeOld
import Derived.ChangeArms
import Derived.LaidMore
import Derived.Lay
import Derived.SevenTiedAt
import Derived.Stop.Joined
import Derived.Carry
set_option linter.unusedSimpArgs false
set_option linter.unusedVariables false
set_option linter.unnecessarySimpa false
set_option maxRecDepth 100000
section
namespace Go.Proofs.YtcbjbdnmhlhijaaGreatDoor
open Go.ChangeShapes Go.WideShapes Go.ChangeAt Go.RowKit
theorem fnExactPoolCut_gl {W:World} (h:laidMetH Tryz.prog Rows.fnExactPoolCutRow.laid W):Go.Av.GlR W (Go.Av.Old W):=by
 rw[MakeChecks.laidMetH_plain _ _ _ (by kernel_rfl)]at h
 intro g cs hg
 unfold Go.Av.gtab at hg
 split at hg
 ·rename_i hh
  subst hh
  injection hg with hg
  subst hg
  exact Go.Av.laid_tab h (zs:=[1,10,100,1000,10000,100000,1000000,10000000,100000000,1000000000,10000000000,100000000000,1000000000000,10000000000000,100000000000000,1000000000000000,10000000000000000,100000000000000000,1000000000000000000,10000000000000000000]) (k:=.u64) (t:=397) (e:=342) (m:=20) (List.mem_of_getElem? (i:=2) rfl) (by kernel_rfl) (by kernel_rfl) Tryz.underlying397 Tryz.underlying342 (by kernel_rfl) (by kernel_rfl) (by simp)
 cases hg
theorem fnExactPoolCut_body:Go.Av.hasBody Tryz.prog 5=true:=by kernel_rfl
set_option maxRecDepth 100000 in
theorem fnExactPoolCut_lifted (os:Os) (started:os.Started) (H:Type) (enc:TypeId×Value→H) :
  ReturnsInHanded {} Tryz.checked os 5 .any (fun w args=>(Rows.fnExactPoolCutSpec.pre enc Tryz.prog Tryz.f5 [] false w args∧laidMetH Tryz.prog Rows.fnExactPoolCutRow.laid w)∧sizedMet enc Tryz.prog Tryz.f5 (OpenSpec.ofChange Rows.fnExactPoolCutSpec) false w args)
   (Rows.fnExactPoolCutSpec.post enc Tryz.prog Tryz.f5 false true false false):=by
 refine returnsInHanded_of_change_and (C:=Tryz.checked) (X:=fun w _=>laidMetH Tryz.prog Rows.fnExactPoolCutRow.laid w) (fun _ _ _ hh h=>h.of_heap hh) fact_own started (by kernel_rfl) Tryz.func5
  (ChangeSpec.witness_shaped (enc:=enc) (C:=Tryz.checked) (os:=os) (X:=fun w _=>laidMetH Tryz.prog Rows.fnExactPoolCutRow.laid w) false (World.laidAll Tryz.prog os Rows.fnExactPoolCutRow.laid) #[.agg #[.slice none 0 0,.slice none 0 0,.slice none 0 0,.int .i64 0,.slice none 0 0,.slice none 0 0,.slice none 0 0,.bool false,.slice none 0 0,.int .i64 0,.bool false],.agg #[.int .i64 0,.string ⟨#[]⟩,.string ⟨#[]⟩,.int .i64 0,.string ⟨#[]⟩],.int .i64 0,.slice none 0 0] 8 (World.laidAll_os _ _ _)
   (World.shaped_of_ZipB (by kernel_rfl) (by kernel_rfl)) (by kernel_rfl) (by kernel_rfl) (by kernel_rfl)
   (by rw[MakeChecks.laidMetH_plain _ _ _ (by kernel_rfl)];exact laidMet_laidAll _ (by kernel_rfl) (by kernel_rfl))) ?_
 intro W base args ds gs before hval0 hW _ _ hX _
 have hval:∀ (j:Nat) t v,Tryz.f5.params[j]?=some t→args[j]?=some v→Value.okWide Tryz.prog W .any base t v:=hval0
 have hW':=hW
 obtain⟨p,q,hA0,hV,rfl,_,_⟩:=hW
 have hA:DataW.TrodAll enc Tryz.prog W 0 (fun _=>true) true Tryz.f5.params.toList args.toList ds p:=hA0
 rw[Tryz.params5]at hA hval
 obtain⟨v0,v1,v2,v3,d0,d1,d2,d3,p0,p1,p2,p3,rfl,rfl,rfl,h0,h1,h2,h3⟩:=Go.Av.F.trodAll_four hA
 obtain⟨rfl,rfl⟩:=trodVars_none hV
 have k0:=h0
 have lt0:∀ x∈p0,x.block<W.heap.size:=by obtain⟨m,hm⟩:=k0;exact DataW.trod_lt m _ _ _ hm
 have k1:=h1
 have lt1:∀ x∈p1,x.block<W.heap.size:=by obtain⟨m,hm⟩:=k1;exact DataW.trod_lt m _ _ _ hm
 have k2:=h2
 have lt2:∀ x∈p2,x.block<W.heap.size:=by obtain⟨m,hm⟩:=k2;exact DataW.trod_lt m _ _ _ hm
 have k3:=h3
 have lt3:∀ x∈p3,x.block<W.heap.size:=by obtain⟨m,hm⟩:=k3;exact DataW.trod_lt m _ _ _ hm
 obtain⟨avs0,r0,s0⟩:=Go.Av.open_st (n:=10) Tryz.underlying34 (by kernel_rfl) (hval 0 34 v0 rfl rfl) k0
 obtain⟨a0,g0,rfl⟩:=Go.Av.F.po_shp s0
 obtain⟨avs1,r1,s1⟩:=Go.Av.open_st (n:=8) Tryz.underlying36 (by kernel_rfl) (hval 1 36 v1 rfl rfl) k1
 obtain⟨a1,g1,rfl⟩:=Go.Av.F.bo_shp s1
 obtain⟨a2,g2,r2⟩:=Go.Av.open_i64 Tryz.underlying3 (hval 2 3 v2 rfl rfl) k2
 obtain⟨a3,g3,r3⟩:=Go.Av.F.open_ints (hval 3 30 v3 rfl rfl) k3
 simp only[List.append_nil,List.append_assoc]at hW'
 refine(Go.Av.calls_below fnExactPoolCut_body ⟨rfl,fun j hj=>by
  match j,hj with
  | 0,_=>exact r0
  | 1,_=>exact r1
  | 2,_=>exact r2
  | 3,_=>exact r3⟩ (Go.Av.bool_only true) (Go.Av.F.lawPoolCut' a0 a1 a2 a3 g0 g1 g3).c (fnExactPoolCut_gl hX)).mono fun e W' ⟨he,hb⟩=>?_
 subst he
 exact⟨_,rfl,_,_,_,[],_,[],hW',trodAll_mk1 (shut_bool Tryz.underlying4 _),Go.Av.F.trodAll_mk4 (Below.trod fact_laidOut (by kernel_rfl) (of_decide_eq_true (by kernel_rfl)) k0 hb lt0) (Below.trod fact_laidOut (by kernel_rfl) (of_decide_eq_true (by kernel_rfl)) k1 hb lt1) (Below.trod fact_laidOut (by kernel_rfl) (of_decide_eq_true (by kernel_rfl)) k2 hb lt2) (Below.trod fact_laidOut (by kernel_rfl) (of_decide_eq_true (by kernel_rfl)) k3 hb lt3),rfl,hb.frame _,fun h=>by cases h⟩
theorem fnExactPoolCut_k1:(Rows.fnExactPoolCutRow.inPlace == Tryz.prog.inPlace 5)=true:=by kernel_rfl
theorem fnExactPoolCut_k2:(Rows.fnExactPoolCutRow.unfollowed == Tryz.prog.unfollowed 5)=true:=by kernel_rfl
theorem fnExactPoolCut_k3:(Rows.fnExactPoolCutRow.recurses == Tryz.prog.recurses 5)=true:=by kernel_rfl
theorem fnExactPoolCut_k4:(Rows.fnExactPoolCutRow.named == Tryz.prog.varsNamed 5)=true:=by kernel_rfl
theorem fnExactPoolCut_k5:(Rows.fnExactPoolCutRow.plainKeys == Tryz.prog.plainKeys)=true:=by kernel_rfl
theorem fnExactPoolCut_k6:(Rows.fnExactPoolCutRow.lifted == Tryz.prog.liftsFinal)=true:=by kernel_rfl
theorem fnExactPoolCut_k7:(Tryz.prog.make == some Rows.fnExactPoolCutRow.make)=true:=by kernel_rfl
theorem fnExactPoolCut_closed:joinedFacts Tryz.prog 5 Tryz.f5 Rows.fnExactPoolCutSpec Rows.fnExactPoolCutRow=true:=by
 unfold joinedFacts
 rw[fact_laidOut,fact_mapsRowed,fact_heard,fact_mayEnter,fnExactPoolCut_k1,fnExactPoolCut_k2,fnExactPoolCut_k3,fnExactPoolCut_k4,fnExactPoolCut_k5,fnExactPoolCut_k6,fnExactPoolCut_k7]
 kernel_rfl
theorem fnExactPoolCut_holds:Rows.FnExactPoolCutSaid :=
 OpenClaim.holds_of_wide 5 Tryz.f5 rfl rfl rfl rfl rfl rfl rfl ⟨rfl,rfl,rfl,rfl,rfl⟩ rfl rfl rfl rfl rfl (by kernel_rfl) Tryz.func5 fnExactPoolCut_closed
  (of_decide_eq_true (by kernel_rfl)) (by unfold Func.isWrapper;first | (rw[if_pos (by decide +kernel)];kernel_rfl) | (rw[if_neg (by decide +kernel)];exact⟨rfl,rfl⟩))
  (fun os started H enc _=>fnExactPoolCut_lifted os started H enc)
theorem fnExactPoolCut_c1:Rows.fnExactPoolCutRow.wfByText (OpenSpec.ofChange Rows.fnExactPoolCutSpec)=true:=by kernel_rfl
theorem fnExactPoolCut_c2:Tryz.prog.funcNamed "loop.example/palim/laws.FnExactPoolCut"=some 5:=by kernel_rfl
theorem fnExactPoolCut_c3:([34,36,3,30].all fun u=>!Tryz.prog.wantsStandIn u)=true:=by kernel_rfl
theorem fnExactPoolCut_c4:false=Rows.fnExactPoolCutRow.goesBy Tryz.pinned.checked.prog:=goesBy_none (by exact fact_nogo) _
theorem fnExactPoolCut_card:Rows.FnExactPoolCutCardSaid :=
 Claim7.holds_tied_plain_at .later [] [.data,.data,.data,.data,.pinned] true (true,"cc65649d1714594bef1c6ae0d5c90554964daf48a54f1a68d9d0a9d5f85e006a") true fnExactPoolCut_holds (fun _ h=>by cases h) fnExactPoolCut_c1 (fun _ h=>by cases h) fnExactPoolCut_row_tie rfl ⟨rfl,rfl⟩ fact_main rfl
  (fun f fn hf hfn=>by
   obtain rfl:f=5:=Option.some.inj (fnExactPoolCut_c2.symm.trans hf) |>.symm
   obtain rfl:fn=Tryz.f5:=(Option.some.inj (Tryz.func5.symm.trans hfn)).symm
   exact⟨fact_looks,fun j t ht=>by
    rw[Tryz.params5]at ht
    have hm:t∈[34,36,3,30]:=by simpa using Array.mem_of_getElem? ht
    exact(show Tryz.prog.wantsStandIn t=false by simpa using List.all_eq_true.1 fnExactPoolCut_c3 t hm)⟩)
  fnExactPoolCut_c4
#print axioms fnExactPoolCut_card
end Go.Proofs.YtcbjbdnmhlhijaaGreatDoor
end
