/- The law of the title is proved here: it returns true for every input and leaves its arguments alone; conditions: as the given row and card say. -/
import Derived.Test.YthgigdhkcffloaaGreatDoorLayAR
import Derived.Test.YthgigdhkcffloaaGreatDoorRows
import Derived.Test.YthgigdhkcffloaaGreatDoorTie
import Derived.Test.YthgigdhkcffloaaGreatDoorCards
import Derived.ProofKit
import Derived.OpenShut
import Derived.ChangeOld
import Derived.ChangeArms
import Derived.LaidMore
import Derived.Lay
import Derived.SevenTiedAt
import Derived.Stop.Joined
import Derived.Carry
set_option linter.unusedSimpArgs false
set_option linter.unusedVariables false
set_option linter.unnecessarySimpa false
set_option maxRecDepth 100000
section
namespace Go.Proofs.YthgigdhkcffloaaGreatDoor
open Go.ChangeShapes Go.WideShapes Go.ChangeAt Go.RowKit
theorem fnStatSince_body:Go.Av.hasBody Tryz.prog 3=true:=by kernel_rfl
set_option maxRecDepth 100000 in
theorem fnStatSince_lifted (os:Os) (started:os.Started) (H:Type) (enc:TypeId×Value→H) :
  ReturnsInHanded {} Tryz.checked os 3 .any (fun w args=>(Rows.fnStatSinceSpec.pre enc Tryz.prog Tryz.f3 [] false w args∧laidMetH Tryz.prog Rows.fnStatSinceRow.laid w)∧sizedMet enc Tryz.prog Tryz.f3 (OpenSpec.ofChange Rows.fnStatSinceSpec) false w args)
   (Rows.fnStatSinceSpec.post enc Tryz.prog Tryz.f3 false true false false):=by
 refine returnsInHanded_of_change_and (C:=Tryz.checked) (X:=fun w _=>laidMetH Tryz.prog Rows.fnStatSinceRow.laid w) (fun _ _ _ hh h=>h.of_heap hh) fact_own started (by kernel_rfl) Tryz.func3
  (ChangeSpec.witness_shaped (enc:=enc) (C:=Tryz.checked) (os:=os) (X:=fun w _=>laidMetH Tryz.prog Rows.fnStatSinceRow.laid w) false (World.laidAll Tryz.prog os Rows.fnStatSinceRow.laid) #[.slice none 0 0] 8 (World.laidAll_os _ _ _)
   (World.shaped_of_ZipB (by kernel_rfl) (by kernel_rfl)) (by kernel_rfl) (by kernel_rfl) (by kernel_rfl)
   (by rw[MakeChecks.laidMetH_plain _ _ _ (by kernel_rfl)];exact laidMet_laidAll _ (by kernel_rfl) (by kernel_rfl))) ?_
 intro W base args ds gs before hval0 hW _ _ hX _
 have hval:∀ (j:Nat) t v,Tryz.f3.params[j]?=some t→args[j]?=some v→Value.okWide Tryz.prog W .any base t v:=hval0
 have hW':=hW
 obtain⟨p,q,hA0,hV,rfl,_,_⟩:=hW
 have hA:DataW.TrodAll enc Tryz.prog W 0 (fun _=>true) true Tryz.f3.params.toList args.toList ds p:=hA0
 rw[Tryz.params3]at hA hval
 obtain⟨v0,d0,rfl,rfl,h0⟩:=trodAll_one hA
 obtain⟨rfl,rfl⟩:=trodVars_none hV
 have k0:=h0
 have lt0:∀ x∈p,x.block<W.heap.size:=by obtain⟨m,hm⟩:=k0;exact DataW.trod_lt m _ _ _ hm
 obtain⟨x0,len0,cap0,rfl⟩:=okWide_slice Tryz.underlying22 (hval 0 22 v0 rfl rfl)
 obtain⟨a0,_,_,r0⟩:∃ code:List UInt8,True∧True∧Go.Av.AVRel W (Go.Av.Old W) Go.Av.noG (.lst 1 (code.map Go.Av.F.u8row)) (.slice x0 len0 cap0):=by
  obtain⟨z,w⟩:∃ zs,Go.Av.IsRow .u8 W x0 len0 cap0 zs:=by
   obtain⟨fuel,hf⟩:=k0
   rcases open_ints Tryz.underlying22 Tryz.underlying5 (by kernel_rfl) hf with⟨hcs,_⟩ | ⟨x,l,c,zs,hcs,_,hl,hm,hz,_,hcell,hwz⟩
   ·simp[Value.cells]at hcs
    obtain⟨rfl,rfl,rfl⟩:=hcs
    exact⟨[],.inl ⟨rfl,rfl,rfl,rfl⟩⟩
   ·simp[Value.cells]at hcs
    obtain⟨rfl,rfl,rfl⟩:=hcs
    exact⟨zs,.inr ⟨_,rfl,hl,hm,by simpa using hz,hcell,hwz⟩⟩
  obtain⟨code,_,_,hr⟩:=Go.Av.lst_rel (γ:=Go.Av.noG) w
  exact⟨code,trivial,trivial,hr⟩
 simp only[List.append_nil]at hW'
 refine(Go.Av.calls_below fnStatSince_body ⟨rfl,fun j hj=>by
  match j,hj with
  | 0,_=>exact r0⟩ (Go.Av.bool_only true) (Go.Av.F.lawSi a0).c (fun g cs hg=>by unfold Go.Av.gtab at hg;cases hg)).mono fun e W' ⟨he,hb⟩=>?_
 subst he
 exact⟨_,rfl,_,_,_,[],_,[],hW',trodAll_mk1 (shut_bool Tryz.underlying4 _),trodAll_mk1 (Below.trod fact_laidOut (by kernel_rfl) (of_decide_eq_true (by kernel_rfl)) k0 hb lt0),rfl,hb.frame _,fun h=>by cases h⟩
theorem fnStatSince_k1:(Rows.fnStatSinceRow.inPlace == Tryz.prog.inPlace 3)=true:=by kernel_rfl
theorem fnStatSince_k2:(Rows.fnStatSinceRow.unfollowed == Tryz.prog.unfollowed 3)=true:=by kernel_rfl
theorem fnStatSince_k3:(Rows.fnStatSinceRow.recurses == Tryz.prog.recurses 3)=true:=by kernel_rfl
theorem fnStatSince_k4:(Rows.fnStatSinceRow.named == Tryz.prog.varsNamed 3)=true:=by kernel_rfl
theorem fnStatSince_k5:(Rows.fnStatSinceRow.plainKeys == Tryz.prog.plainKeys)=true:=by kernel_rfl
theorem fnStatSince_k6:(Rows.fnStatSinceRow.lifted == Tryz.prog.liftsFinal)=true:=by kernel_rfl
theorem fnStatSince_k7:(Tryz.prog.make == some Rows.fnStatSinceRow.make)=true:=by kernel_rfl
theorem fnStatSince_closed:joinedFacts Tryz.prog 3 Tryz.f3 Rows.fnStatSinceSpec Rows.fnStatSinceRow=true:=by
 unfold joinedFacts
 rw[fact_laidOut,fact_mapsRowed,fact_heard,fact_mayEnter,fnStatSince_k1,fnStatSince_k2,fnStatSince_k3,fnStatSince_k4,fnStatSince_k5,fnStatSince_k6,fnStatSince_k7]
 kernel_rfl
theorem fnStatSince_holds:Rows.FnStatSinceSaid :=
 OpenClaim.holds_of_wide 3 Tryz.f3 rfl rfl rfl rfl rfl rfl rfl ⟨rfl,rfl,rfl,rfl,rfl⟩ rfl rfl rfl rfl rfl (by kernel_rfl) Tryz.func3 fnStatSince_closed
  (of_decide_eq_true (by kernel_rfl)) (by unfold Func.isWrapper;first | (rw[if_pos (by decide +kernel)];kernel_rfl) | (rw[if_neg (by decide +kernel)];exact⟨rfl,rfl⟩))
  (fun os started H enc _=>fnStatSince_lifted os started H enc)
theorem fnStatSince_c1:Rows.fnStatSinceRow.wfByText (OpenSpec.ofChange Rows.fnStatSinceSpec)=true:=by kernel_rfl
theorem fnStatSince_c2:Tryz.prog.funcNamed "loop.example/palim/laws.FnStatSince"=some 3:=by kernel_rfl
theorem fnStatSince_c3:([22].all fun u=>!Tryz.prog.wantsStandIn u)=true:=by kernel_rfl
theorem fnStatSince_c4:false=Rows.fnStatSinceRow.goesBy Tryz.pinned.checked.prog:=goesBy_none (by exact fact_nogo) _
theorem fnStatSince_card:Rows.FnStatSinceCardSaid :=
 Claim7.holds_tied_plain_at .later [] [.data,.pinned] true (true,"1d8799893391a261a574dd10afaf4cb46d3a6ba291fa6f44e5f930810e4cda2b") false fnStatSince_holds (fun _ h=>by cases h) fnStatSince_c1 (fun _ h=>by cases h) fnStatSince_row_tie rfl ⟨rfl,rfl⟩ fact_main rfl
  (fun f fn hf hfn=>by
   obtain rfl:f=3:=Option.some.inj (fnStatSince_c2.symm.trans hf) |>.symm
   obtain rfl:fn=Tryz.f3:=(Option.some.inj (Tryz.func3.symm.trans hfn)).symm
   exact⟨fact_looks,fun j t ht=>by
    rw[Tryz.params3]at ht
    have hm:t∈[22]:=by simpa using Array.mem_of_getElem? ht
    exact(show Tryz.prog.wantsStandIn t=false by simpa using List.all_eq_true.1 fnStatSince_c3 t hm)⟩)
  fnStatSince_c4
#print axioms fnStatSince_card
end Go.Proofs.YthgigdhkcffloaaGreatDoor

end
