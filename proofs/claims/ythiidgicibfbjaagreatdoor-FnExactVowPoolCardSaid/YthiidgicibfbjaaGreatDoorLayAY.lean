/- Lemmas for the proof, no statement of the seat; no conditions. -/
import Derived.Test.YthiidgicibfbjaaGreatDoorLayAX
import Derived.Lib.LaidTab
import Derived.FnData
import Derived.Test.YthiidgicibfbjaaGreatDoorRows
import Derived.Test.YthiidgicibfbjaaGreatDoorCards
import Derived.ProofKit
import Derived.OpenShut
import Derived.LaidMore
import Derived.Lay
import Derived.SevenTiedAt
import Derived.Stop.Joined
set_option linter.unusedSimpArgs false
set_option linter.unusedVariables false
set_option linter.unnecessarySimpa false
set_option maxRecDepth 100000
set_option maxHeartbeats 400000
section
namespace Go.Av
open Go.RowKit Go.ChangeShapes Go.WideShapes Go.ChangeAt
variable {P:Program} {W:World}
theorem qni {n:String} {d:DataW Unit}:∀ {laid:List (String×DataW Unit)} {ps:List MemPlace},DataW.LaidVars P W laid ps→(n,d)∈laid →
  ∃ g t cs fuel p,P.globalNamed n=some g∧(P.globals[g]?).map (·.type)=some t∧W.var? P n=some cs∧DataW.trod (fun _=>()) P W 0 (fun _=>true) false fuel t cs.toList=some (d,p)
 | [],ps,_,hm=>by simp at hm
 | (m,e)::r,ps,h,hm=>by
  obtain⟨g,t,cs,fuel,p,q,h1,h2,h3,h4,h5,_⟩:=h;rcases qHq.1 hm with hm | hm
  ·injection hm with e1 e2;subst e1;subst e2;exact⟨g,t,cs,fuel,p,h1,h2,h3,h4⟩
  ·exact qni h5 hm
theorem quT {n:String} {g:Nat} {cs:Array Value} (hg:P.globalNamed n=some g) (hv:W.var? P n=some cs) (avs:List AV) (hl:avs.length=cs.size) (hne:avs≠[]) (hr:∀ j,j<avs.length→AVRel W (Old W) noG (avs.getD j .top) (cs.getD j undef)) :
  AVRel W (Old W) noG (.elm avs) (.pointer (some ⟨g,0,none⟩))∧Old W ⟨g,avs.length,none⟩∧W.cell? ⟨g,avs.length,none⟩=none:=by
 have hc:=fun i=>World.var?_cell hg hv i;have h0:0<cs.size:=by rw[← hl];exact qFZ.2 hne
 have hcell:∀ j,j<avs.length→W.cell? ⟨g,j,none⟩=some (cs.getD j undef):=fun j hj=>by
  rw[hc,qHJ (by omega)];simp[Array.getD,show j<cs.size by omega]
 have hb:g<W.heap.size:=World.block_lt_of_cell? W _ (hcell 0 (by omega));refine⟨.elm _ avs _ (fun j=>cs.getD j undef) rfl (fun j hj=>hb) (fun j hj=>?_) hr,hb,?_⟩
 ·simpa [Addr.at]using hcell j hj
 ·rw[hc,qG0 (by omega)]
theorem laid_tab {laid:List (String×DataW Unit)} (h:laidMet P laid W) {n:String} {g:Nat} {zs:List Int} {k:IntKind} {t e:TypeId} {m:Nat} (hm:(n,(Lib.tabData k zs:DataW Unit))∈laid) (hg:P.globalNamed n=some g) (hty:(P.globals[g]?).map (·.type)=some t)
  (ht:P.underlying t=some (.array m e)) (he:P.underlying e=some (.int k)) (hce:P.cellsOf e=1) (hct:P.cellsOf t=m) (hne:zs≠[]) :
  AVRel W (Old W) noG (.elm (zs.map (AV.int k))) (.pointer (some ⟨g,0,none⟩))∧Old W ⟨g,(zs.map (AV.int k)).length,none⟩∧W.cell? ⟨g,(zs.map (AV.int k)).length,none⟩=none:=by
 obtain⟨ps,hL,_⟩:=h;obtain⟨g',t',cs,fuel,p,h1,h2,h3,h4⟩:=qni hL hm;obtain rfl:=qIt (hg.symm.trans h1);obtain rfl:=qIt (hty.symm.trans h2);have hcs:=Lib.cells_of_tab ht he hce hct h4;have hcs2:cs=(zs.map fun z=>Value.int k z).toArray:=by rw[← hcs]
 subst hcs2;refine quT hg h3 _ (by simp) (by simpa using hne) fun j hj=>?_;simp only[qG4]at hj;simp[List.getD,Array.getD,hj];exact .int _ _ _
theorem laid_ifc {laid:List (String×DataW Unit)} (h:laidMet P laid W) {n s:String} {d:DataW Unit} {g:Nat} {t:TypeId} {m:Array (String×TypeId)} (hm:(n,(DataW.iface s d:DataW Unit))∈laid) (hg:P.globalNamed n=some g) (hty:(P.globals[g]?).map (·.type)=some t)
  (ht:P.underlying t=some (.interface m)):AVRel W (Old W) noG (.elm [.ifc]) (.pointer (some ⟨g,0,none⟩))∧Old W ⟨g,[AV.ifc].length,none⟩∧W.cell? ⟨g,[AV.ifc].length,none⟩=none:=by
 obtain⟨ps,hL,_⟩:=h;obtain⟨g',t',cs,fuel,p,h1,h2,h3,h4⟩:=qni hL hm;obtain rfl:=qIt (hg.symm.trans h1);obtain rfl:=qIt (hty.symm.trans h2);cases fuel with
 | zero=>simp[DataW.trod]at h4
 | succ fuel =>
  unfold DataW.trod at h4;simp only[ht]at h4;obtain⟨l⟩:=cs;simp only at h4
  match l,h4,h3 with
  | [.iface u v],h4,h3 =>
   refine quT hg h3 _ rfl (by simp) fun j hj=>?_;obtain rfl:j=0:=by simpa using hj
   exact .ifc _ _ _
  | [.nilIface],h4,h3=>simp at h4
  | [],h4,h3=>simp at h4
  | .int _ _::_,h4,h3=>simp at h4
  | _::_::_,h4,h3=>simp at h4
end Go.Av
end
section
namespace Go.Proofs.YthiidgicibfbjaaGreatDoor
open Go.ChangeShapes Go.WideShapes Go.ChangeAt Go.RowKit
theorem que:ownKnob Tryz.prog.godebug=none:=by kernel_rfl
theorem qhC:laidOutB Tryz.prog=true:=by kernel_rfl
theorem qjm:mapsRowed Tryz.prog=true:=by kernel_rfl
theorem qpT:Tryz.prog.stopsHeard=true:=by kernel_rfl
theorem qkU:Tryz.prog.mayEnter=true:=by kernel_rfl
theorem qso:Tryz.pinned.checked.prog.mainIs=some (true,"94ddc6106c0e87da7f990659e475fcd9fa75f92a8b1a5b1f9337df2f6a15a156".toList):=by kernel_rfl
theorem qpS:true=Tryz.prog.looks []:=by kernel_rfl
theorem qsn:Tryz.prog.funcs.any Func.goes=false:=by kernel_rfl
theorem qsl {P:Program} (h:P.funcs.any Func.goes=false) (f:Nat):P.goes f=false:=by
 unfold Program.goes;rw[h,Bool.and_false,Bool.or_false,List.any_eq_false];intro g _;cases hg:P.funcs[g]? with
 | none=>simp
 | some fn =>
  rw[Array.any_eq_false]at h;obtain⟨hl,rfl⟩:=Array.getElem?_eq_some_iff.1 hg;simpa using h g hl
theorem qnt {P:Program} (h:P.funcs.any Func.goes=false) (c:OpenClaim):false=c.goesBy P:=by
 unfold OpenClaim.goesBy Program.goesAt Program.goesFrom;have e:P.goes=fun _=>false:=funext fun f=>qsl h f;rw[e];cases P.funcNamed c.func <;> cases c.start <;> simp
end Go.Proofs.YthiidgicibfbjaaGreatDoor
end
