/- Lemmas for the proof, no statement of the seat; no conditions. -/
import Derived.Test.YthiidgicibfbjaaGreatDoorLayAG
set_option linter.unusedSimpArgs false
set_option linter.unusedVariables false
set_option linter.unnecessarySimpa false
set_option maxRecDepth 100000
set_option maxHeartbeats 400000
section
namespace Go.Av
open Go.RowKit
section
variable {P:Program} {E:Env} {s:S} {Q:Exit→S→Prop} {K:S→Prop} {d:Option Nat}
def cpO (n:Nat) (ops:Array Oper):Oper→Option AOper
 | ⟨d,op,_,_,_,none⟩=>if qum n d then some ⟨none,d,op⟩ else none
 | ⟨d,op,_,_,_,some (g,want)⟩=>if qum n d then match (ops[g]?).bind (·.dst)with
   | some k=>some ⟨some (k,want),d,op⟩
   | none=>none
  else none
theorem qvP (n:Nat) (ops:Array Oper) (o:Oper):cpO n ops o=qjf n ops o:=by
 obtain⟨d,op,_,_,_,g⟩:=o;cases g with
 | none=>simp[cpO,qjf]
 | some g=>obtain⟨g,w⟩:=g;simp only[cpO,qjf];split <;> rfl
def cpL (n:Nat) (ops:Array Oper):List Oper→Option (List AOper)
 | []=>some []
 | o::r=>match cpO n ops o,cpL n ops r with
  | some a,some l=>some (a::l)
  | _,_=>none
theorem qvQ (n:Nat) (ops:Array Oper):∀ l,cpL n ops l=qlg n ops l
 | []=>rfl
 | o::r=>by simp only[cpL,qlg,qvP,qvQ n ops r];cases qjf n ops o <;> cases qlg n ops r <;> rfl
def cpD (n:Nat) (ops:Array Oper):List Itm→Option (List DOper)
 | []=>some []
 | ⟨k,rd,av,fr,_⟩::r=>match ops[k]?,cpD n ops r,qp2 ops fr with
  | some o,some l,some fr=>match cpO n ops o with
   | some a=>some (⟨a,rd,av,fr⟩::l)
   | none=>none
  | _,_,_=>none
def qch (ops:Array Oper) (it:Itm):Itm:=⟨it.k,it.rd,it.av,it.fr,(List.range ops.size).foldl (fun acc j=>match ops[j]? with
 | some o=>if o.after.any (fun e=>Region.binds .any e && (e.on == it.k || acc.contains e.on)) then acc++[j] else acc
 | none=>acc) []⟩
theorem qvR (n:Nat) (ops:Array Oper):∀ l,cpD n ops l=qlh n ops (l.map (qch ops))
 | []=>rfl
 | ⟨k,rd,av,fr,hr⟩::r=>by
  simp only[cpD,qGs,qlh,qch,qvP,qvR n ops r];cases ops[k]? <;> cases qlh n ops (r.map (qch ops)) <;> cases qp2 ops fr <;> first | rfl | (rename_i o _ _;cases qjf n ops o <;> rfl)
def qCq (pl:List (Nat×List Itm)) (id:Nat) (k:Nat):List Itm :=
 match pl with
 | []=>(List.range k).map fun i=>⟨i,[],[],[],[]⟩
 | (i,p)::r=>if id=i then p else qCq r id k
def qqj (pl:List (Nat×List Itm)):Code→List (Nat×List Itm)
 | .region id ops true=>[(id,(qCq pl id ops.size).map (qch ops))]
 | .seq a b=>qqj pl a++qqj pl b
 | .cond _ a b=>qqj pl a++qqj pl b
 | .block _ a=>qqj pl a
 | .loop a=>qqj pl a
 | .rangeFunc _ _ _ a=>qqj pl a
 | _=>[]
def cpk (n:Nat) (pl full:List (Nat×List Itm)):Code→Bool
 | .region id ops true=>qtG n ops (qjM full id) && decide (qjM full id=(qCq pl id ops.size).map (qch ops))
 | .seq a b=>cpk n pl full a && cpk n pl full b
 | .cond _ a b=>cpk n pl full a && cpk n pl full b
 | .block _ a=>cpk n pl full a
 | .loop a=>cpk n pl full a
 | .rangeFunc _ _ _ a=>cpk n pl full a
 | _=>true
def cp (n:Nat) (pl:List (Nat×List Itm)):Code→Option ACode
 | .skip=>some .skip
 | .label _=>some .skip
 | .region _ ops false=>match cpL n ops ops.toList with
  | some l=>some (.reg l)
  | none=>none
 | .region id ops true=>match cpD n ops (qCq pl id ops.size)with
  | some l=>some (.draw l)
  | none=>none
 | .seq a b=>match cp n pl a,cp n pl b with
  | some x,some y=>some (.seq x y)
  | _,_=>none
 | .cond c a b=>match cp n pl a,cp n pl b with
  | some x,some y=>some (.cond c x y)
  | _,_=>none
 | .block id a=>match cp n pl a with
  | some x=>some (.block id x)
  | none=>none
 | .loop a=>match cp n pl a with
  | some x=>some (.loop x)
  | none=>none
 | .exit id=>some (.exit id)
 | .ret=>some .ret
 | .rangeFunc g ps asg b=>match qCi n g ps asg b (cp n pl b)with
  | some (g,p,q,x)=>some (.rng g p q x)
  | none=>none
 | _=>none
theorem qBQ (n:Nat) (pl full:List (Nat×List Itm)):∀ c,cpk n pl full c=true→cp n pl c=comp n full c:=by
 intro c
 induction c with
 | region id ops b =>
  intro h;cases b with
  | false=>simp only[cp,comp,qvQ];cases qlg n ops ops.toList <;> rfl
  | true =>
   simp only[cpk,Bool.and_eq_true,decide_eq_true_eq]at h;simp only[cp,comp,qvR,h.1,if_true,← h.2];cases qlh n ops (qjM full id) <;> rfl
 | seq a b iha ihb=>intro h;simp only[cpk,Bool.and_eq_true]at h;simp only[cp,comp,iha h.1,ihb h.2];cases comp n full a <;> cases comp n full b <;> rfl
 | cond c a b iha ihb=>intro h;simp only[cpk,Bool.and_eq_true]at h;simp only[cp,comp,iha h.1,ihb h.2];cases comp n full a <;> cases comp n full b <;> rfl
 | block id a ih=>intro h;simp only[cp,comp,ih h];cases comp n full a <;> rfl
 | loop a ih=>intro h;simp only[cp,comp,ih h];cases comp n full a <;> rfl
 | rangeFunc g ps asg b iha ihb=>intro h;simp only[cp,comp,ihb h];cases qCi n g ps asg b (comp n full b) <;> rfl
 | _=>intro _;rfl
def qgT (pl:List (Nat×List Itm)) (fn:Func):Bool:=match fn.body with
 | some b=>cpk fn.ntmps pl (qqj pl b) b
 | none=>false
structure CV (P:Program) (f:Nat) (args:List AV) (v:AV):Prop where
 en:qb1 P f=true
 ca:clL args=true
 cv:clA v=true
 c:ACall P f args [] (fun r L'=>r=v∧L'=[])
theorem CV.call {f:Nat} {args:List AV} {v:AV} (h:CV P f args v) (hK:K ⟨qcC s.t d v,s.h,s.u⟩):qjs P f args d s K:=qaj h.en h.c h.ca h.cv hK
theorem acx {f:Nat} {fn:Func} {b:Code} {ac:ACode} {n:Nat} {rs:List ResultVar} {args:List AV} {L:List (Nat×Ob)} {R:AV→List (Nat×Ob)→Prop} (hf:P.funcs[f]?=some fn) (pl:List (Nat×List Itm)) (hn:fn.ntmps=n) (hb:fn.body=some b)
  (hc:cp n pl b=some ac) (hr:fn.results.toList=rs)
  (h:ev P ⟨n,L.map (·.1)⟩ ac (qof P rs R) ⟨qsT args,qaQ L,Us.of (L.map (·.1))⟩) (hk:qgT pl fn=true:=by kernel_rfl) (hbd:hasBody P f=true:=by kernel_rfl) (ha:args.length≤n:=by simp) (hL:(L.map (·.1)).Nodup:=by simp):ACall P f args L R :=
 qsV hbd n (qqj pl b) rs hf (by rw[hb];exact(qBQ n pl (qqj pl b) b (by rw[← hn];unfold qgT at hk;rw[hb]at hk;exact hk)).symm.trans hc) hn hr ha hL (qbE _ h)
theorem cvx {f:Nat} {fn:Func} {b:Code} {ac:ACode} {n:Nat} {rs:List ResultVar} {args:List AV} {v:AV} (hf:P.funcs[f]?=some fn) (pl:List (Nat×List Itm)) (hn:fn.ntmps=n) (hb:fn.body=some b)
  (hc:cp n pl b=some ac) (hr:fn.results.toList=rs)
  (h:ev P ⟨n,[]⟩ ac (qof P rs (fun r L'=>r=v∧L'=[])) ⟨qsT args,qaQ [],Us.of []⟩) (hk:qgT pl fn=true:=by kernel_rfl) (hbd:hasBody P f=true:=by kernel_rfl) (he:qb1 P f=true:=by kernel_rfl) (ha:args.length≤n:=by simp) (hca:clL args=true:=by simp) (hcv:clA v=true:=by simp):CV P f args v :=
 ⟨he,hca,hcv,acx hf pl hn hb hc hr h hk hbd ha (by simp)⟩
def qdQ {α:Type}:List (Nat×α)→Nat→Option α
 | [],_=>none
 | (k,v)::r,i=>if i=k then some v else qdQ r i
def hdS (ins live:List Nat) (φ:List (Nat×Nat)) (s:S) (up:List (Nat×AV)) (hp:List (Nat×Ob)):S :=
 ⟨mkT (live.map fun i=>(i,(qdQ up i).getD (ren (rho φ) (s.t i)))),qaQ (φ.map fun p=>(p.2,(qdQ hp p.2).getD (qah (rho φ) (s.h p.1)))),Us.of (ins++φ.map (·.2))⟩
attribute [simp] qdQ hdS qao qae
theorem qbe {a:ACode} {X:Type} (live:List Nat) (φ:List (Nat×Nat)) (up:X→List (Nat×AV)) (hp:X→List (Nat×Ob)) (meas:X→Nat) (good:X→Prop) (x0:X)
  (hg:good x0) (round:∀ x,good x→ev P E a (qfv (qrK E live (fun x=>hdS E.ins live φ s (up x) (hp x)) meas good x) Q) (hdS E.ins live φ s (up x) (hp x)))
  (h0:qae E φ s:=by simp) (he:qao E.ins live φ s=hdS E.ins live φ s (up x0) (hp x0):=by simp):ev P E (.loop a) Q s :=
 qaR live (fun x=>hdS E.ins live φ s (up x) (hp x)) meas good x0 ⟨hg,φ,h0,he⟩ round
theorem nx {X:Type} {live:List Nat} {st0:X→S} {meas:X→Nat} {good:X→Prop} {x:X} (x':X) (φ:List (Nat×Nat)) (h2:good x') (h1:meas x'<meas x:=by((try dsimp only);omega)) (h3:qae E φ s:=by simp) (h4:qao E.ins live φ s=st0 x':=by simp) :
  qrK E live st0 meas good x s:=⟨x',h1,h2,φ,h3,h4⟩
theorem qap (n:Int) (h1:-9223372036854775808≤n) (h2:n≤9223372036854775807):IntKind.i64.wrap n=n:=qax n ⟨h1,h2⟩
attribute [simp] qap
theorem qaZ {α:Type} {l r:List α} {x:α} {i:Nat} (h:l.drop i=x::r):∃ _:i<l.length,l[i]=x∧l[i]?=some x∧l.drop (i+1)=r:=by
 have hl:i<l.length:=by
  rcases qGO i l.length with h' | h'
  ·exact h'
  ·rw[qHL h']at h;cases h
 rw[qF7 hl]at h;injection h with h1 h2;exact⟨hl,h1,by rw[qF3 hl,h1],h2⟩
theorem qfI {α:Type} {l:List α} {x:α} {i:Nat} (h:l[i]?=some x):l.drop i=x::l.drop (i+1):=by
 obtain⟨h1,h2⟩:=qGy.1 h;rw[qF7 h1,h2]
theorem qaY {α:Type} {l:List α} {i:Nat} (h:l.drop i=[]):l.length≤i:=by simpa using h
end
end Go.Av
end
