/- Lemmas for the proof, no statement of the seat; no conditions. -/
import Derived.Test.YthgigdhkcffloaaGreatDoorLayAF
set_option linter.unusedSimpArgs false
set_option linter.unusedVariables false
set_option linter.unnecessarySimpa false
set_option maxRecDepth 100000
section
namespace Go.Av
open Go.RowKit
section
variable {P:Program} {E:Env} {s:S} {Q:Exit→S→Prop} {K:S→Prop} {d:Option Nat}
def cpO (n:Nat) (ops:Array Oper):Oper→Option AOper
 | ⟨d,op,_,_,_,none⟩=>if dstB n d then some ⟨none,d,op⟩ else none
 | ⟨d,op,_,_,_,some (g,want)⟩=>if dstB n d then match (ops[g]?).bind (·.dst)with
   | some k=>some ⟨some (k,want),d,op⟩
   | none=>none
  else none
theorem cpO_eq (n:Nat) (ops:Array Oper) (o:Oper):cpO n ops o=compO n ops o:=by
 obtain⟨d,op,_,_,_,g⟩:=o
 cases g<;>grind[cpO,compO]
def cpL (n:Nat) (ops:Array Oper):List Oper→Option (List AOper)
 | []=>some []
 | o::r=>match cpO n ops o,cpL n ops r with
  | some a,some l=>some (a::l)
  | _,_=>none
theorem cpL_eq (n:Nat) (ops:Array Oper):∀ l,cpL n ops l=compL n ops l
 | []=>rfl
 | o::r=>by simp only[cpL,compL,cpO_eq,cpL_eq n ops r];rfl
def cpD (n:Nat) (ops:Array Oper):List Itm→Option (List DOper)
 | []=>some []
 | ⟨k,rd,av,fr,_⟩::r=>match ops[k]?,cpD n ops r,compF ops fr with
  | some o,some l,some fr=>match cpO n ops o with
   | some a=>some (⟨a,rd,av,fr⟩::l)
   | none=>none
  | _,_,_=>none
def fillB (ops:Array Oper) (it:Itm):Itm:=⟨it.k,it.rd,it.av,it.fr,(List.range ops.size).foldl (fun acc j=>match ops[j]? with
 | some o=>if o.after.any (fun e=>Region.binds .any e && (e.on == it.k || acc.contains e.on)) then acc++[j] else acc
 | none=>acc) []⟩
theorem cpD_eq (n:Nat) (ops:Array Oper):∀ l,cpD n ops l=compD n ops (l.map (fillB ops))
 | []=>rfl
 | ⟨k,rd,av,fr,hr⟩::r=>by
  simp only[cpD,List.map_cons,compD,fillB,cpO_eq,cpD_eq n ops r]
  rfl
def rawP (pl:List (Nat×List Itm)) (id:Nat) (k:Nat):List Itm :=
 match pl with
 | []=>(List.range k).map fun i=>⟨i,[],[],[],[]⟩
 | (i,p)::r=>if id=i then p else rawP r id k
def colP (pl:List (Nat×List Itm)):Code→List (Nat×List Itm)
 | .region id ops true=>[(id,(rawP pl id ops.size).map (fillB ops))]
 | .seq a b=>colP pl a++colP pl b
 | .cond _ a b=>colP pl a++colP pl b
 | .block _ a=>colP pl a
 | .loop a=>colP pl a
 | .rangeFunc _ _ _ a=>colP pl a
 | _=>[]
def cpk (n:Nat) (pl full:List (Nat×List Itm)):Code→Bool
 | .region id ops true=>planB n ops (planAt full id) && decide (planAt full id=(rawP pl id ops.size).map (fillB ops))
 | .seq a b=>cpk n pl full a && cpk n pl full b
 | .cond _ a b=>cpk n pl full a && cpk n pl full b
 | .block _ a=>cpk n pl full a
 | .loop a=>cpk n pl full a
 | .rangeFunc _ _ _ a=>cpk n pl full a
 | _=>true
def cp (n:Nat) (pl:List (Nat×List Itm)):Code→Option ACode
 | .skip=>some .skip
 | .label _=>some .skip
 | .region _ ops false=>match cpL n ops ops.toList with
  | some l=>some (.reg l)
  | none=>none
 | .region id ops true=>match cpD n ops (rawP pl id ops.size)with
  | some l=>some (.draw l)
  | none=>none
 | .seq a b=>match cp n pl a,cp n pl b with
  | some x,some y=>some (.seq x y)
  | _,_=>none
 | .cond c a b=>match cp n pl a,cp n pl b with
  | some x,some y=>some (.cond c x y)
  | _,_=>none
 | .block id a=>match cp n pl a with
  | some x=>some (.block id x)
  | none=>none
 | .loop a=>match cp n pl a with
  | some x=>some (.loop x)
  | none=>none
 | .exit id=>some (.exit id)
 | .ret=>some .ret
 | .rangeFunc g ps asg b=>match rngP n g ps asg b (cp n pl b)with
  | some (g,p,q,x)=>some (.rng g p q x)
  | none=>none
 | _=>none
theorem cp_eq (n:Nat) (pl full:List (Nat×List Itm)):∀ c,cpk n pl full c=true→cp n pl c=comp n full c:=by
 intro c
 induction c with
 | region id ops b =>
  intro h
  cases b<;>grind[cp,comp,cpL_eq,cpk,cpD_eq]
 | seq a b iha ihb=>grind[cpk,cp,comp]
 | cond c a b iha ihb=>grind[cpk,cp,comp]
 | block id a ih=>intro h;simp only[cp,comp,ih h];grind
 | loop a ih=>intro h;simp only[cp,comp,ih h];grind
 | rangeFunc g ps asg b iha ihb=>intro h;simp only[cp,comp,ihb h];grind
 | _=>intro _;rfl
def planned (pl:List (Nat×List Itm)) (fn:Func):Bool:=match fn.body with
 | some b=>cpk fn.ntmps pl (colP pl b) b
 | none=>false
structure CV (P:Program) (f:Nat) (args:List AV) (v:AV):Prop where
 en:enters P f=true
 ca:clL args=true
 cv:clA v=true
 c:ACall P f args [] (fun r L'=>r=v∧L'=[])
theorem CV.call {f:Nat} {args:List AV} {v:AV} (h:CV P f args v) (hK:K ⟨putA s.t d v,s.h,s.u⟩):callA P f args d s K:=qcb h.en h.c h.ca h.cv hK
theorem acx {f:Nat} {fn:Func} {b:Code} {ac:ACode} {n:Nat} {rs:List ResultVar} {args:List AV} {L:List (Nat×Ob)} {R:AV→List (Nat×Ob)→Prop} (hf:P.funcs[f]?=some fn) (pl:List (Nat×List Itm)) (hn:fn.ntmps=n) (hb:fn.body=some b)
  (hc:cp n pl b=some ac) (hr:fn.results.toList=rs)
  (h:ev P ⟨n,L.map (·.1)⟩ ac (retQ P rs R) ⟨argT args,hpOf L,Us.of (L.map (·.1))⟩) (hk:planned pl fn=true:=by kernel_rfl) (hbd:hasBody P f=true:=by kernel_rfl) (ha:args.length≤n:=by simp) (hL:(L.map (·.1)).Nodup:=by simp):ACall P f args L R :=
 acallA hbd n (colP pl b) rs hf (by grind[cp_eq,planned]) hn hr ha hL (qal _ h)
theorem cvx {f:Nat} {fn:Func} {b:Code} {ac:ACode} {n:Nat} {rs:List ResultVar} {args:List AV} {v:AV} (hf:P.funcs[f]?=some fn) (pl:List (Nat×List Itm)) (hn:fn.ntmps=n) (hb:fn.body=some b)
  (hc:cp n pl b=some ac) (hr:fn.results.toList=rs)
  (h:ev P ⟨n,[]⟩ ac (retQ P rs (fun r L'=>r=v∧L'=[])) ⟨argT args,hpOf [],Us.of []⟩) (hk:planned pl fn=true:=by kernel_rfl) (hbd:hasBody P f=true:=by kernel_rfl) (he:enters P f=true:=by kernel_rfl) (ha:args.length≤n:=by simp) (hca:clL args=true:=by simp) (hcv:clA v=true:=by simp):CV P f args v :=
 ⟨he,hca,hcv,acx hf pl hn hb hc hr h hk hbd ha (by simp)⟩
def getU {α:Type}:List (Nat×α)→Nat→Option α
 | [],_=>none
 | (k,v)::r,i=>if i=k then some v else getU r i
def hdS (ins live:List Nat) (φ:List (Nat×Nat)) (s:S) (up:List (Nat×AV)) (hp:List (Nat×Ob)):S :=
 ⟨mkT (live.map fun i=>(i,(getU up i).getD (ren (rho φ) (s.t i)))),hpOf (φ.map fun p=>(p.2,(getU hp p.2).getD (obOf (rho φ) (s.h p.1)))),Us.of (ins++φ.map (·.2))⟩
attribute [simp] getU hdS canon qab
theorem ev_lp {a:ACode} {X:Type} (live:List Nat) (φ:List (Nat×Nat)) (up:X→List (Nat×AV)) (hp:X→List (Nat×Ob)) (meas:X→Nat) (good:X→Prop) (x0:X)
  (hg:good x0) (round:∀ x,good x→ev P E a (thenQ (nextX E live (fun x=>hdS E.ins live φ s (up x) (hp x)) meas good x) Q) (hdS E.ins live φ s (up x) (hp x)))
  (h0:qab E φ s:=by simp) (he:canon E.ins live φ s=hdS E.ins live φ s (up x0) (hp x0):=by simp):ev P E (.loop a) Q s :=
 qbu live (fun x=>hdS E.ins live φ s (up x) (hp x)) meas good x0 ⟨hg,φ,h0,he⟩ round
theorem nx {X:Type} {live:List Nat} {st0:X→S} {meas:X→Nat} {good:X→Prop} {x:X} (x':X) (φ:List (Nat×Nat)) (h2:good x') (h1:meas x'<meas x:=by((try dsimp only);omega)) (h3:qab E φ s:=by simp) (h4:canon E.ins live φ s=st0 x':=by simp) :
  nextX E live st0 meas good x s:=⟨x',h1,h2,φ,h3,h4⟩
theorem i64w (n:Int) (h1:-9223372036854775808≤n) (h2:n≤9223372036854775807):IntKind.i64.wrap n=n:=qao n ⟨h1,h2⟩
attribute [simp] i64w
theorem dropc {α:Type} {l r:List α} {x:α} {i:Nat} (h:l.drop i=x::r):∃ _:i<l.length,l[i]=x∧l[i]?=some x∧l.drop (i+1)=r:=by
 grind[List.drop_eq_nil_of_le,List.drop_eq_getElem_cons]
theorem dropAt {α:Type} {l:List α} {x:α} {i:Nat} (h:l[i]?=some x):l.drop i=x::l.drop (i+1):=by
 grind[List.drop_eq_getElem_cons]
theorem dropn {α:Type} {l:List α} {i:Nat} (h:l.drop i=[]):l.length≤i:=by simp_all
end
end Go.Av

end
