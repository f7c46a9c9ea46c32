/- Lemmas for the proof, no statement of the seat; no conditions. -/
import Derived.Test.YtcbjbdnmhlhijaaGreatDoorLayAW
import Derived.Test.YtcbjbdnmhlhijaaGreatDoorRows
import Derived.Test.YtcbjbdnmhlhijaaGreatDoorCards
import Derived.ProofKit
import Derived.OpenShut
import Derived.LaidMore
import Derived.Lay
import Derived.SevenTiedAt
import Derived.Stop.Joined
set_option linter.unusedSimpArgs false
set_option linter.unusedVariables false
set_option linter.unnecessarySimpa false
set_option maxRecDepth 100000
section
namespace Go.Proofs.YtcbjbdnmhlhijaaGreatDoor
open Go.ChangeShapes Go.WideShapes Go.ChangeAt Go.RowKit
theorem fact_own:ownKnob Tryz.prog.godebug=none:=by kernel_rfl
theorem fact_laidOut:laidOutB Tryz.prog=true:=by kernel_rfl
theorem fact_mapsRowed:mapsRowed Tryz.prog=true:=by kernel_rfl
theorem fact_heard:Tryz.prog.stopsHeard=true:=by kernel_rfl
theorem fact_mayEnter:Tryz.prog.mayEnter=true:=by kernel_rfl
theorem fact_main:Tryz.pinned.checked.prog.mainIs=some (true,"cc65649d1714594bef1c6ae0d5c90554964daf48a54f1a68d9d0a9d5f85e006a".toList):=by kernel_rfl
theorem fact_looks:true=Tryz.prog.looks []:=by kernel_rfl
theorem fact_nogo:Tryz.prog.funcs.any Func.goes=false:=by kernel_rfl
theorem goes_none {P:Program} (h:P.funcs.any Func.goes=false) (f:Nat):P.goes f=false:=by
 unfold Program.goes
 rw[h,Bool.and_false,Bool.or_false,List.any_eq_false]
 intro g _
 cases hg:P.funcs[g]? with
 | none=>simp
 | some fn =>
  rw[Array.any_eq_false]at h
  obtain⟨hl,rfl⟩:=Array.getElem?_eq_some_iff.1 hg
  simpa using h g hl
theorem goesBy_none {P:Program} (h:P.funcs.any Func.goes=false) (c:OpenClaim):false=c.goesBy P:=by
 unfold OpenClaim.goesBy Program.goesAt Program.goesFrom
 have e:P.goes=fun _=>false:=funext fun f=>goes_none h f
 rw[e]
 cases P.funcNamed c.func <;> cases c.start <;> simp
end Go.Proofs.YtcbjbdnmhlhijaaGreatDoor
end
