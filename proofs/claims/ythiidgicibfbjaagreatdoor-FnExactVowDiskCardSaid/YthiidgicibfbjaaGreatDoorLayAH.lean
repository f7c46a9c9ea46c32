/- Lemmas for the proof, no statement of the seat; no conditions. -/
import Derived.Test.YthiidgicibfbjaaGreatDoorLayAG
set_option linter.unusedSimpArgs false
set_option linter.unusedVariables false
set_option linter.unnecessarySimpa false
set_option maxRecDepth 100000
set_option maxHeartbeats 400000
section
namespace Go.Av
open Go.RowKit
section
variable {P:Program} {E:Env} {s:S} {Q:Exit→S→Prop} {K:S→Prop} {d:Option Nat}
def cpO (n:Nat) (ops:Array Oper):Oper→Option AOper
 | ⟨d,op,_,_,_,none⟩=>if qs6 n d then some ⟨none,d,op⟩ else none
 | ⟨d,op,_,_,_,some (g,want)⟩=>if qs6 n d then match (ops[g]?).bind (·.dst)with
   | some k=>some ⟨some (k,want),d,op⟩
   | none=>none
  else none
theorem quw (n:Nat) (ops:Array Oper) (o:Oper):cpO n ops o=qiJ n ops o:=by
 obtain⟨d,op,_,_,_,g⟩:=o;cases g with
 | none=>simp[cpO,qiJ]
 | some g=>obtain⟨g,w⟩:=g;simp only[cpO,qiJ];split <;> rfl
def cpL (n:Nat) (ops:Array Oper):List Oper→Option (List AOper)
 | []=>some []
 | o::r=>match cpO n ops o,cpL n ops r with
  | some a,some l=>some (a::l)
  | _,_=>none
theorem qux (n:Nat) (ops:Array Oper):∀ l,cpL n ops l=qkH n ops l
 | []=>rfl
 | o::r=>by simp only[cpL,qkH,quw,qux n ops r];cases qiJ n ops o <;> cases qkH n ops r <;> rfl
def cpD (n:Nat) (ops:Array Oper):List Itm→Option (List DOper)
 | []=>some []
 | ⟨k,rd,av,fr,_⟩::r=>match ops[k]?,cpD n ops r,qo7 ops fr with
  | some o,some l,some fr=>match cpO n ops o with
   | some a=>some (⟨a,rd,av,fr⟩::l)
   | none=>none
  | _,_,_=>none
def qoW (ops:Array Oper) (it:Itm):Itm:=⟨it.k,it.rd,it.av,it.fr,(List.range ops.size).foldl (fun acc j=>match ops[j]? with
 | some o=>if o.after.any (fun e=>Region.binds .any e && (e.on == it.k || acc.contains e.on)) then acc++[j] else acc
 | none=>acc) []⟩
theorem quy (n:Nat) (ops:Array Oper):∀ l,cpD n ops l=qkI n ops (l.map (qoW ops))
 | []=>rfl
 | ⟨k,rd,av,fr,hr⟩::r=>by
  simp only[cpD,qD5,qkI,qoW,quw,quy n ops r];cases ops[k]? <;> cases qkI n ops (r.map (qoW ops)) <;> cases qo7 ops fr <;> first | rfl | (rename_i o _ _;cases qiJ n ops o <;> rfl)
def qAn (pl:List (Nat×List Itm)) (id:Nat) (k:Nat):List Itm :=
 match pl with
 | []=>(List.range k).map fun i=>⟨i,[],[],[],[]⟩
 | (i,p)::r=>if id=i then p else qAn r id k
def qpn (pl:List (Nat×List Itm)):Code→List (Nat×List Itm)
 | .region id ops true=>[(id,(qAn pl id ops.size).map (qoW ops))]
 | .seq a b=>qpn pl a++qpn pl b
 | .cond _ a b=>qpn pl a++qpn pl b
 | .block _ a=>qpn pl a
 | .loop a=>qpn pl a
 | .rangeFunc _ _ _ a=>qpn pl a
 | _=>[]
def cpk (n:Nat) (pl full:List (Nat×List Itm)):Code→Bool
 | .region id ops true=>qst n ops (qjj full id) && decide (qjj full id=(qAn pl id ops.size).map (qoW ops))
 | .seq a b=>cpk n pl full a && cpk n pl full b
 | .cond _ a b=>cpk n pl full a && cpk n pl full b
 | .block _ a=>cpk n pl full a
 | .loop a=>cpk n pl full a
 | .rangeFunc _ _ _ a=>cpk n pl full a
 | _=>true
def cp (n:Nat) (pl:List (Nat×List Itm)):Code→Option ACode
 | .skip=>some .skip
 | .label _=>some .skip
 | .region _ ops false=>match cpL n ops ops.toList with
  | some l=>some (.reg l)
  | none=>none
 | .region id ops true=>match cpD n ops (qAn pl id ops.size)with
  | some l=>some (.draw l)
  | none=>none
 | .seq a b=>match cp n pl a,cp n pl b with
  | some x,some y=>some (.seq x y)
  | _,_=>none
 | .cond c a b=>match cp n pl a,cp n pl b with
  | some x,some y=>some (.cond c x y)
  | _,_=>none
 | .block id a=>match cp n pl a with
  | some x=>some (.block id x)
  | none=>none
 | .loop a=>match cp n pl a with
  | some x=>some (.loop x)
  | none=>none
 | .exit id=>some (.exit id)
 | .ret=>some .ret
 | .rangeFunc g ps asg b=>match qAf n g ps asg b (cp n pl b)with
  | some (g,p,q,x)=>some (.rng g p q x)
  | none=>none
 | _=>none
theorem qzO (n:Nat) (pl full:List (Nat×List Itm)):∀ c,cpk n pl full c=true→cp n pl c=comp n full c:=by
 intro c
 induction c with
 | region id ops b =>
  intro h;cases b with
  | false=>simp only[cp,comp,qux];cases qkH n ops ops.toList <;> rfl
  | true =>
   simp only[cpk,Bool.and_eq_true,decide_eq_true_eq]at h;simp only[cp,comp,quy,h.1,if_true,← h.2];cases qkI n ops (qjj full id) <;> rfl
 | seq a b iha ihb=>intro h;simp only[cpk,Bool.and_eq_true]at h;simp only[cp,comp,iha h.1,ihb h.2];cases comp n full a <;> cases comp n full b <;> rfl
 | cond c a b iha ihb=>intro h;simp only[cpk,Bool.and_eq_true]at h;simp only[cp,comp,iha h.1,ihb h.2];cases comp n full a <;> cases comp n full b <;> rfl
 | block id a ih=>intro h;simp only[cp,comp,ih h];cases comp n full a <;> rfl
 | loop a ih=>intro h;simp only[cp,comp,ih h];cases comp n full a <;> rfl
 | rangeFunc g ps asg b iha ihb=>intro h;simp only[cp,comp,ihb h];cases qAf n g ps asg b (comp n full b) <;> rfl
 | _=>intro _;rfl
def qgt (pl:List (Nat×List Itm)) (fn:Func):Bool:=match fn.body with
 | some b=>cpk fn.ntmps pl (qpn pl b) b
 | none=>false
structure CV (P:Program) (f:Nat) (args:List AV) (v:AV):Prop where
 en:qb0 P f=true
 ca:clL args=true
 cv:clA v=true
 c:ACall P f args [] (fun r L'=>r=v∧L'=[])
theorem CV.call {f:Nat} {args:List AV} {v:AV} (h:CV P f args v) (hK:K ⟨qcw s.t d v,s.h,s.u⟩):qiX P f args d s K:=qaR h.en h.c h.ca h.cv hK
theorem acx {f:Nat} {fn:Func} {b:Code} {ac:ACode} {n:Nat} {rs:List ResultVar} {args:List AV} {L:List (Nat×Ob)} {R:AV→List (Nat×Ob)→Prop} (hf:P.funcs[f]?=some fn) (pl:List (Nat×List Itm)) (hn:fn.ntmps=n) (hb:fn.body=some b)
  (hc:cp n pl b=some ac) (hr:fn.results.toList=rs)
  (h:ev P ⟨n,L.map (·.1)⟩ ac (qnx P rs R) ⟨qrK args,qaW L,Us.of (L.map (·.1))⟩) (hk:qgt pl fn=true:=by kernel_rfl) (hbd:hasBody P f=true:=by kernel_rfl) (ha:args.length≤n:=by simp) (hL:(L.map (·.1)).Nodup:=by simp):ACall P f args L R :=
 qrM hbd n (qpn pl b) rs hf (by rw[hb];exact(qzO n pl (qpn pl b) b (by rw[← hn];unfold qgt at hk;rw[hb]at hk;exact hk)).symm.trans hc) hn hr ha hL (qbB _ h)
theorem cvx {f:Nat} {fn:Func} {b:Code} {ac:ACode} {n:Nat} {rs:List ResultVar} {args:List AV} {v:AV} (hf:P.funcs[f]?=some fn) (pl:List (Nat×List Itm)) (hn:fn.ntmps=n) (hb:fn.body=some b)
  (hc:cp n pl b=some ac) (hr:fn.results.toList=rs)
  (h:ev P ⟨n,[]⟩ ac (qnx P rs (fun r L'=>r=v∧L'=[])) ⟨qrK args,qaW [],Us.of []⟩) (hk:qgt pl fn=true:=by kernel_rfl) (hbd:hasBody P f=true:=by kernel_rfl) (he:qb0 P f=true:=by kernel_rfl) (ha:args.length≤n:=by simp) (hca:clL args=true:=by simp) (hcv:clA v=true:=by simp):CV P f args v :=
 ⟨he,hca,hcv,acx hf pl hn hb hc hr h hk hbd ha (by simp)⟩
def qdJ {α:Type}:List (Nat×α)→Nat→Option α
 | [],_=>none
 | (k,v)::r,i=>if i=k then some v else qdJ r i
def hdS (ins live:List Nat) (φ:List (Nat×Nat)) (s:S) (up:List (Nat×AV)) (hp:List (Nat×Ob)):S :=
 ⟨mkT (live.map fun i=>(i,(qdJ up i).getD (ren (rho φ) (s.t i)))),qaW (φ.map fun p=>(p.2,(qdJ hp p.2).getD (qah (rho φ) (s.h p.1)))),Us.of (ins++φ.map (·.2))⟩
attribute [simp] qdJ hdS qax qai
theorem qa7 {a:ACode} {X:Type} (live:List Nat) (φ:List (Nat×Nat)) (up:X→List (Nat×AV)) (hp:X→List (Nat×Ob)) (meas:X→Nat) (good:X→Prop) (x0:X)
  (hg:good x0) (round:∀ x,good x→ev P E a (qff (qqK E live (fun x=>hdS E.ins live φ s (up x) (hp x)) meas good x) Q) (hdS E.ins live φ s (up x) (hp x)))
  (h0:qai E φ s:=by simp) (he:qax E.ins live φ s=hdS E.ins live φ s (up x0) (hp x0):=by simp):ev P E (.loop a) Q s :=
 qbK live (fun x=>hdS E.ins live φ s (up x) (hp x)) meas good x0 ⟨hg,φ,h0,he⟩ round
theorem nx {X:Type} {live:List Nat} {st0:X→S} {meas:X→Nat} {good:X→Prop} {x:X} (x':X) (φ:List (Nat×Nat)) (h2:good x') (h1:meas x'<meas x:=by((try dsimp only);omega)) (h3:qai E φ s:=by simp) (h4:qax E.ins live φ s=st0 x':=by simp) :
  qqK E live st0 meas good x s:=⟨x',h1,h2,φ,h3,h4⟩
theorem qaq (n:Int) (h1:-9223372036854775808≤n) (h2:n≤9223372036854775807):IntKind.i64.wrap n=n:=qaT n ⟨h1,h2⟩
attribute [simp] qaq
theorem qaV {α:Type} {l r:List α} {x:α} {i:Nat} (h:l.drop i=x::r):∃ _:i<l.length,l[i]=x∧l[i]?=some x∧l.drop (i+1)=r:=by
 have hl:i<l.length:=by
  rcases qEr i l.length with h' | h'
  ·exact h'
  ·rw[qFn h']at h;cases h
 rw[qDK hl]at h;injection h with h1 h2;exact⟨hl,h1,by rw[qDF hl,h1],h2⟩
theorem qfq {α:Type} {l:List α} {x:α} {i:Nat} (h:l[i]?=some x):l.drop i=x::l.drop (i+1):=by
 obtain⟨h1,h2⟩:=qEb.1 h;rw[qDK h1,h2]
theorem qaU {α:Type} {l:List α} {i:Nat} (h:l.drop i=[]):l.length≤i:=by simpa using h
end
end Go.Av
end
