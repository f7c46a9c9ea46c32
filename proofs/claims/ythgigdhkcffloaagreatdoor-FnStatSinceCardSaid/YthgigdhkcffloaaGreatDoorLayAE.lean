/- Lemmas for the proof, no statement of the seat; no conditions. -/
import Derived.Test.YthgigdhkcffloaaGreatDoorLayAD
set_option linter.unusedSimpArgs false
set_option linter.unusedVariables false
set_option linter.unnecessarySimpa false
set_option maxRecDepth 100000
section
namespace Go.Av
open Go.RowKit
def isV:Op→Bool
 | .move _ | .assign _ | .pick _ _ _ | .build _ _ | .load _ _ | .nilCheck _ | .binOp _ _ _ _ _ | .unOp _ _ _ | .convert _ _ _ | .makeFunc _ _ _ | .slice _ _ _ _ _ | .fieldAddr _ _ _ | .field _ _ _
 | .indexAddr _ _ _ | .index _ _ _ | .extract _ _=>true
 | .call ⟨.builtin .len,_,_⟩=>true
 | _=>false
def isA:Op→Bool
 | .alloc _ | .box _ _ | .buildSlice _ _ _ | .makeSlice _ _ _=>true
 | _=>false
def isF:Op→Bool
 | .call ⟨.value _,_,_⟩=>true
 | _=>false
def isG:Op→Bool
 | .call ⟨.builtin .append,_,_⟩=>true
 | _=>false
def gOk (rd:List Nat) (op:Op) (t:Tm):Prop :=
 match op with
 | .call ⟨.builtin .append,args,_⟩=>match args.toList with
  | [x,y]=>(match opd t x with | .sl id _ _=>(rd.drop 1).contains id=true | _=>False)∧(match opd t y with | .lst _ _=>True | _=>False)
  | _=>False
 | _=>True
def rdG (rd:List Nat):Bool:=match rd with
 | 0::_=>true
 | _=>false
def gMay (rd:List Nat) (op:Op):Bool:=isG op && rdG rd
def rstH (rd:List Nat) (h:Hp):Hp:=fun id=>if rd.contains id then h id else none
def avOk:List Nat→Hp→Hp→Prop
 | [],_,_=>True
 | id::r,h,h'=>h' id=h id∧avOk r h h'
def aOk (P:Program) (a:Oper) (s:S):Prop:=(match opS P a s with | some (q,_)=>q | none=>False)∧(match a.dst with | some d=>s.h d=none | none=>False)
def aOks (P:Program):List Oper→S→Prop
 | [],_=>True
 | a::r,s=>aOk P a s∧aOks P r s
theorem aOks_spec {P:Program} {s:S}:∀ {l:List Oper},aOks P l s→∀ a∈l,aOk P a s
 | [],_,a,ha=>by grind
 | b::r,h,a,ha=>by
  simp only[List.mem_cons]at ha
  rcases ha with rfl | ha
  ·exact h.1
  ·exact aOks_spec h.2 a ha
theorem avOk_spec {h h':Hp}:∀ {av:List Nat},avOk av h h'↔∀ id∈av,h' id=h id
 | []=>by simp[avOk]
 | id::r=>by simp[avOk,avOk_spec (av:=r)]
structure Itm where
 k:Nat
 rd:List Nat
 av:List Nat
 fr:List Nat
 B:List Nat
deriving DecidableEq,Inhabited
def frOf (ops:Array Oper) (fr:List Nat):List Oper:=fr.filterMap fun i=>ops[i]?
def stepN (P:Program) (n:Nat) (ops:Array Oper) (it:Itm) (o:Oper) (s:S) (K:S→Prop):Prop :=
 if isV o.op=true then
  match evVal P s.t (rstH it.rd s.h) o with
  | some (p,v)=>p∧(match o.dst with | some d=>d<n | none=>True)∧K ⟨putA s.t o.dst v,s.h,s.u⟩
  | none=>False
 else match o.op with
  | .call ⟨.value x,args,_⟩=>callF P n (opd s.t x) (args.toList.map (opd s.t)) o.dst s (fun s'=>avOk it.av s.h s'.h∧K s')
  | _=>(gMay it.rd o.op=true→gOk it.rd o.op s.t)∧outS n o.dst (opS P o s) (fun s'=>avOk it.av s.h s'.h∧K s')
def fires (ops:Array Oper) (o:Oper) (t:Tm):Option Bool :=
 match o.guard with
 | none=>some true
 | some (g,want)=>match (ops[g]?).bind (·.dst)with
  | some d=>match t d with
   | .bool b=>some (b == want)
   | .tup _=>some false
   | _=>none
  | none=>none
def qar (P:Program) (n:Nat) (ops:Array Oper) (it:Itm) (o:Oper) (s:S) (K:S→Prop):Prop :=
 match fires ops o s.t with
 | some true=>stepN P n ops it o s K
 | some false=>(match o.dst with | some d=>d<n | none=>True)∧K ⟨putA s.t o.dst (.tup []),s.h,s.u⟩
 | none=>False
section
variable {P:Program} {n:Nat} {ops:Array Oper} {s:S} {t t':Tm} {h h':Hp} {K K':S→Prop}
def agree (ops:Array Oper) (o:Oper) (t t':Tm):Prop:=∀ i∈o.looksAt ops,t' i=t i
theorem agree_opd {o:Oper} (ha:agree ops o t t') {x:Operand} (hx:x∈o.op.operands.toList):opd t' x=opd t x:=by
 cases x with
 | tmp i =>
  refine ha i ?_
  grind[Oper.looksAt]
 | _=>rfl
theorem agree_fires {o:Oper} (ha:agree ops o t t'):fires ops o t'=fires ops o t:=by
 unfold fires
 cases hg:o.guard with
 | none=>rfl
 | some gw =>
  obtain⟨g,want⟩:=gw
  simp only
  cases hd:(ops[g]?).bind (·.dst)with
  | none=>rfl
  | some d =>
   simp only
   have:t' d=t d:=ha d (by grind[Oper.looksAt])
   grind
theorem agree_evVal {o:Oper} (ha:agree ops o t t'):evVal P t' h o=evVal P t h o:=by
 obtain⟨dst,op,ty,pos,after,guard⟩:=o
 have hop:∀ x,x∈op.operands.toList→opd t' x=opd t x:=fun x hx=>agree_opd ha hx
 cases op with
 | move x=>grind[evVal,Op.operands]
 | assign x=>grind[evVal,Op.operands]
 | pick c a b=>grind[evVal,Op.operands]
 | build ty parts =>
  grind[evVal,List.map_congr_left,Op.operands]
 | load ty a=>grind[evVal,Op.operands]
 | nilCheck x=>grind[evVal,Op.operands]
 | binOp op xt x y yt=>grind[evVal,Op.operands]
 | unOp op xt x=>grind[evVal,Op.operands]
 | convert a b x=>grind[evVal,Op.operands]
 | makeFunc fn first cap =>
  cases fn<;>grind[evVal,List.map_congr_left,Op.operands]
 | slice ty x lo hi mx =>
  have e1:lo.map (opd t')=lo.map (opd t):=by
   cases lo<;>grind[Op.operands]
  have e2:hi.map (opd t')=hi.map (opd t):=by
   cases hi<;>grind[Op.operands]
  grind[evVal,Op.operands]
 | fieldAddr s x f=>grind[evVal,Op.operands]
 | field s x f=>grind[evVal,Op.operands]
 | indexAddr ty x i=>grind[evVal,Op.operands]
 | index ty x i=>grind[evVal,Op.operands]
 | extract x ix=>grind[evVal,Op.operands]
 | call c =>
  obtain⟨callee,args,tys⟩:=c
  have hq:∀ x,x∈args.toList→opd t' x=opd t x:=fun x hx=>hop x (by grind[Op.operands,Call.operands])
  cases callee with
  | builtin b =>
   cases b <;> simp only[evVal] <;> (generalize hl:args.toList=l at hq ⊢;generalize tys.toList=m;match l,m,hq with
    | [],_,_=>rfl
    | [x],[],hq=>rfl
    | [x],[_],hq=>first | rfl | simp only[hq x (by simp)]
    | [x],_::_::_,hq=>rfl
    | [x,y],_,hq=>first | rfl | simp only[hq x (by simp),hq y (by simp)]
    | _::_::_::_,_,_=>rfl)
  | _=>rfl
 | _=>rfl
theorem evVal_more (hm:∀ id o,h id=some o→h' id=some o) {o:Oper} {p:Prop} {v:AV} (he:evVal P t h o=some (p,v)):evVal P t h' o=some (p,v):=by
 obtain⟨dst,op,ty,pos,after,guard⟩:=o
 cases op with
 | load ty a =>
  simp only[evVal]at he ⊢
  generalize opd t a=x at he ⊢
  cases x <;> simp only[evLoad]at he ⊢ <;> try exact he
  grind
 | convert a b x =>
  simp only[evVal]at he ⊢
  generalize opd t x=y at he ⊢
  cases y <;> simp only[evConv]at he ⊢ <;> try exact he
  grind
 | slice ty x lo hi mx =>
  cases mx with
  | some m =>
   simp only[evVal]at he ⊢
   unfold evSlice3 at he ⊢
   split at he
   ·split at he
    ·split at he
     all_goals grind
    omega
   omega
  | none =>
   simp only[evVal]at he ⊢
   generalize opd t x=y at he ⊢
   cases y <;> simp only[evSlice]at he ⊢ <;> try exact he
   all_goals grind
 | indexAddr ty x i =>
  simp only[evVal]at he ⊢
  generalize opd t x=y at he ⊢
  generalize opd t i=z at he ⊢
  cases z <;> simp only[evIndexAddr]at he ⊢ <;> try exact he
  grind
 | makeFunc fn first cap=>cases fn <;> exact he
 | call c =>
  obtain⟨callee,args,tys⟩:=c
  cases callee with
  | builtin b=>cases b <;> exact he
  | _=>exact he
 | _=>exact he
def putR (k:Nat) (v:AV) (r:Option (Prop×S)):Option (Prop×S):=r.map fun r=>(r.1,⟨upd r.2.t k v,r.2.h,r.2.u⟩)
theorem evNew_put {d k:Nat} {v x:AV} {sz:Nat} {els:List (List AV)} {u:Us} (hd:d≠k):evNew d ⟨upd t k v,h,u⟩ sz els x=⟨upd (evNew d ⟨t,h,u⟩ sz els x).t k v,(evNew d ⟨t,h,u⟩ sz els x).h,(evNew d ⟨t,h,u⟩ sz els x).u⟩:=by
 grind[evNew,upd_comm]
theorem evAppend_put {d k e1 e2:Nat} {v:AV} {u:Us} (hd:d≠k) (a b:AV):evAppend P ⟨upd t k v,h,u⟩ d e1 e2 a b=putR k v (evAppend P ⟨t,h,u⟩ d e1 e2 a b):=by
 unfold evAppend
 generalize ttOf P e1=T1
 generalize ttOf P e2=T2
 cases T1 with
 | none=>rfl
 | some i1 =>
 cases T2 with
 | none=>obtain⟨td1,_,_,_⟩:=i1;cases td1 <;> rfl
 | some i2 =>
 obtain⟨td1,_,_,_⟩:=i1
 obtain⟨td2,_,_,_⟩:=i2
 cases td1 <;> try rfl
 rename_i e0
 cases td2 <;> try rfl
 simp only
 generalize ttOf P e0=A
 generalize qba h b=B
 cases A with
 | none=>rfl
 | some ie =>
  cases B with
  | none=>rfl
  | some r =>
   cases a <;> simp only <;> try (simp[putR];done)
   ·grind[putR,evNew_put]
   ·split
    all_goals grind[putR,upd_comm]
theorem evApp_put {d k e1 e2:Nat} {v:AV} {u:Us} (hd:d≠k) (a b:AV):evApp P ⟨upd t k v,h,u⟩ d e1 e2 a b=putR k v (evApp P ⟨t,h,u⟩ d e1 e2 a b):=by
 unfold evApp
 generalize hb:b=b'
 split
 ·grind[evAppendZ,putR,evNew_put]
 ·rename_i id _ _ _ _
  unfold evAppendC
  generalize ttOf P e1=T1
  generalize ttOf P e2=T2
  split
  ·rename_i e _ _ _ _ _ _ _
   dsimp only
   generalize ttOf P e=T3
   generalize h id=O
   generalize qba h b'=B
   cases T3 <;> cases B <;> cases O <;> try (simp[putR];done)
   grind[putR,upd_comm,evNew_put]
  rfl
 grind[evAppend_put]
theorem evCopy_put {d:Option Nat} {k e1:Nat} {v:AV} {u:Us} (hd:∀ x,d=some x→x≠k) (a b:AV):evCopy P ⟨upd t k v,h,u⟩ d e1 a b=putR k v (evCopy P ⟨t,h,u⟩ d e1 a b):=by
 unfold evCopy
 generalize ttOf P e1=T1
 split
 ·rename_i e _ _ _
  generalize ttOf P e=T3
  generalize qba h b=B
  generalize slOf a=A
  cases T3 <;> cases B <;> cases A <;> try (simp[putR];done)
  rename_i A
  obtain⟨id,e0,len⟩:=A
  dsimp only
  generalize h id=O
  cases O
  ·rfl
  ·cases d<;>grind[putR,putA,upd_comm]
 rfl
theorem evClear_put {k e1:Nat} {v:AV} {u:Us} (a:AV):evClear P ⟨upd t k v,h,u⟩ e1 a=putR k v (evClear P ⟨t,h,u⟩ e1 a):=by
 unfold evClear
 generalize ttOf P e1=T1
 split
 ·rename_i e _ _ _
  generalize ttOf P e=T3
  generalize slOf a=A
  cases T3 <;> cases A <;> try (simp[putR];done)
  grind[putR]
 rfl
theorem opS_put {o:Oper} {k:Nat} {v:AV} {u:Us} (ha:agree ops o t (upd t k v)) (hd:o.dst≠some k):opS P o ⟨upd t k v,h,u⟩=putR k v (opS P o ⟨t,h,u⟩):=by
 have hv:valS P o ⟨upd t k v,h,u⟩=putR k v (valS P o ⟨t,h,u⟩):=by
  unfold valS
  simp only[agree_evVal ha]
  cases evVal P t h o with
  | none=>rfl
  | some r =>
   obtain⟨p,x⟩:=r
   simp only[putR,Option.map_some]
   cases hx:o.dst with
   | none=>rfl
   | some d=>simp only[putA];rw[upd_comm t v x (by rintro rfl;exact hd hx)]
 have hev:=agree_evVal (P:=P) (h:=h) ha
 obtain⟨dst,op,ty,pos,after,guard⟩:=o
 have hop:∀ x,x∈op.operands.toList→opd (upd t k v) x=opd t x:=fun x hx=>agree_opd ha hx
 have hdd:∀ d,dst=some d→d≠k:=fun d h1 h2=>hd (by simp[h1,h2])
 cases op with
 | alloc e =>
  cases dst with
  | none=>rfl
  | some d =>
   simp only[opS,evAlloc]
   split <;> simp[putR,evNew_put (hdd d rfl)]
 | box e x =>
  cases dst with
  | none=>rfl
  | some d =>
   simp only[opS,evBox,hop x (by simp[Op.operands])]
   split <;> simp[putR,evNew_put (hdd d rfl)]
 | buildSlice e len parts =>
  cases dst with
  | none=>rfl
  | some d =>
   have:(parts.toList.map fun x=>(x.1,opd (upd t k v) x.2))=parts.toList.map fun x=>(x.1,opd t x.2):=List.map_congr_left fun x hx=>by
    rw[hop x.2 (by simp only[Op.operands,List.mem_map];exact⟨x,hx,rfl⟩)]
   simp only[opS,qbo,this]
   split
   ·split
    ·split <;> simp[putR,evNew_put (hdd d rfl)]
    ·simp[putR]
   ·simp[putR]
 | makeSlice e x y =>
  cases dst with
  | none=>rfl
  | some d =>
   simp only[opS,hop x (by simp[Op.operands]),hop y (by simp[Op.operands])]
   generalize opd t x=a
   generalize opd t y=b
   cases a <;> cases b <;> simp only[evMake] <;> try (simp[putR];done)
   split
   ·split <;> simp[putR,evNew_put (hdd d rfl)]
   ·simp[putR]
 | store e x y =>
  cases dst with
  | some d=>rfl
  | none =>
   simp only[opS,hop x (by simp[Op.operands]),hop y (by simp[Op.operands])]
   generalize opd t x=a
   cases a <;> simp only[evStore] <;> try (simp[putR];done)
   split <;> simp[putR]
 | convert e1 e2 x =>
  cases dst with
  | none=>rfl
  | some d =>
   simp only[opS,hev,hop x (by simp[Op.operands])]
   split
   ·rename_i p w _
    simp[putR,upd_comm t v w (Ne.symm (hdd d rfl))]
   ·generalize opd t x=a
    cases a <;> simp only[evBytes] <;> try (simp[putR];done)
    split <;> try (simp[putR];done)
    split <;> simp[putR,evNew_put (hdd d rfl)]
 | call c =>
  obtain⟨callee,args,tys⟩:=c
  have hq:∀ x,x∈args.toList→opd (upd t k v) x=opd t x:=fun x hx=>hop x (by simp[Op.operands,Call.operands];exact .inr (by simpa using hx))
  cases callee with
  | builtin b =>
   cases b
   case append =>
    cases dst with
    | none=>rfl
    | some d =>
     simp only[opS]
     generalize hl:args.toList=l at hq ⊢
     generalize tys.toList=m
     match l,m,hq with
     | [x,y],[e1,e2],hq =>
      simp only[hq x (by simp),hq y (by simp)]
      exact evApp_put (hdd d rfl) _ _
     | [],_,_=>rfl
     | [_],_,_=>rfl
     | _::_::_::_,_,_=>rfl
     | [_,_],[],_=>rfl
     | [_,_],[_],_=>rfl
     | [_,_],_::_::_::_,_=>rfl
   case copy =>
    simp only[opS]
    generalize hl:args.toList=l at hq ⊢
    generalize tys.toList=m
    match l,m,hq with
    | [x,y],[e1,e2],hq =>
     simp only[hq x (by simp),hq y (by simp)]
     exact evCopy_put hdd _ _
    | [],_,_=>rfl
    | [_],_,_=>rfl
    | _::_::_::_,_,_=>rfl
    | [_,_],[],_=>rfl
    | [_,_],[_],_=>rfl
    | [_,_],_::_::_::_,_=>rfl
   case clear =>
    cases dst with
    | some d=>rfl
    | none =>
     simp only[opS]
     generalize hl:args.toList=l at hq ⊢
     generalize tys.toList=m
     match l,m,hq with
     | [x],[e1],hq =>
      simp only[hq x (by simp)]
      exact evClear_put _
     | [],_,_=>rfl
     | [_],[],_=>rfl
     | [_],_::_::_,_=>rfl
     | _::_::_,_,_=>rfl
   all_goals exact hv
  | _=>exact hv
 | _=>exact hv
theorem opS_t {o:Oper} {p:Prop} {s':S} (he:opS P o s=some (p,s')):∃ v,s'.t=putA s.t o.dst v:=by
 have hv:valS P o s=some (p,s')→∃ v,s'.t=putA s.t o.dst v:=fun he=>by
  grind[valS]
 unfold opS at he
 split at he
 ·rename_i h1;rw[h1]
  unfold evAlloc at he
  split at he
  ·injection he with he;injection he with _ e2;subst e2;exact⟨_,rfl⟩
  grind
 ·grind
 ·rename_i h1;rw[h1]
  unfold evBox at he
  split at he
  ·injection he with he;injection he with _ e2;subst e2;exact⟨_,rfl⟩
  grind
 ·grind
 ·rename_i h1;rw[h1]
  unfold qbo at he
  split at he
  ·split at he
   ·split at he
    ·injection he with he;injection he with _ e2;subst e2;exact⟨_,rfl⟩
    grind
   grind
  grind
 ·grind
 ·rename_i h1;rw[h1]
  unfold evMake at he
  split at he
  ·split at he
   ·split at he
    ·injection he with he;injection he with _ e2;subst e2;exact⟨_,rfl⟩
    grind
   grind
  grind
 ·grind
 ·rename_i h1;rw[h1]
  unfold evStore at he
  split at he
  ·split at he
   ·injection he with he;injection he with _ e2;subst e2;exact⟨.top,rfl⟩
   grind
  grind
 ·grind
 ·rename_i h1;rw[h1]
  split at he
  ·injection he with he;injection he with _ e2;subst e2;exact⟨_,rfl⟩
  ·unfold evBytes at he
   split at he
   ·split at he
    ·split at he
     ·injection he with he;injection he with _ e2;subst e2;exact⟨_,rfl⟩
     grind
    grind
   grind
 ·grind
 ·rename_i h1;rw[h1]
  split at he
  ·unfold evApp at he
   split at he
   ·split at he
    ·unfold evAppendZ at he
     split at he
     ·split at he
      ·injection he with he;injection he with _ e2;subst e2;exact⟨_,rfl⟩
      grind
     grind
    grind
   ·unfold evAppendC at he
    split at he
    ·split at he
     ·split at he
      ·injection he with he;injection he with _ e2;subst e2;exact⟨_,rfl⟩
      ·injection he with he;injection he with _ e2;subst e2;exact⟨_,rfl⟩
     grind
    grind
   ·unfold evAppend at he
    split at he
    ·split at he
     ·split at he
      ·injection he with he;injection he with _ e2;subst e2;exact⟨_,rfl⟩
      ·split at he
       ·injection he with he;injection he with _ e2;subst e2;exact⟨_,rfl⟩
       grind
      grind
     grind
    grind
  grind
 ·grind
 ·split at he
  all_goals grind[evCopy]
 ·rename_i h1;rw[h1]
  split at he
  ·unfold evClear at he
   split at he
   ·split at he
    ·split at he
     ·injection he with he;injection he with _ e2;subst e2;exact⟨.top,rfl⟩
     grind
    grind
   grind
  grind
 all_goals grind
theorem putA_ne {t:Tm} {d:Option Nat} {v:AV} {x:Nat} (h:d≠some x):putA t d v x=t x:=by
 cases d with
 | none=>rfl
 | some k=>exact qam _ _ (by grind)
theorem opS_A {o:Oper} (hA:isA o.op=true) {p:Prop} {s':S} (he:opS P o s=some (p,s')):∃ d sz els v q0,o.dst=some d∧s'=evNew d s sz els v∧(p↔d ∉ s.u∧q0) ∧
  ∀ s2:S,agree ops o s.t s2.t→∃ p2,opS P o s2=some (p2,evNew d s2 sz els v)∧(p2↔d ∉ s2.u∧q0):=by
 obtain⟨dst,op,ty,pos,after,guard⟩:=o
 have hop:∀ {s2:S},agree ops ⟨dst,op,ty,pos,after,guard⟩ s.t s2.t→∀ x,x∈op.operands.toList→opd s2.t x=opd s.t x:=fun ha x hx=>agree_opd ha hx
 cases op <;> simp only[isA,Bool.false_eq_true]at hA
 case alloc e =>
  cases dst with
  | none=>cases he
  | some d =>
   simp only[opS,evAlloc]at he ⊢
   cases hT:ttOf P e with
   | none=>grind
   | some i =>
    rw[hT]at he
    obtain⟨rfl,rfl⟩:=he
    exact⟨d,_,_,_,i.zero.length=i.size∧0<i.size,rfl,rfl,Iff.rfl,fun s2 ha=>⟨_,rfl,Iff.rfl⟩⟩
 case box e x =>
  cases dst with
  | none=>cases he
  | some d =>
   simp only[opS,evBox]at he ⊢
   split at he
   ·rename_i i cs hT hc
    obtain⟨rfl,rfl⟩:=he
    refine⟨d,_,_,_,cs.length=i.size∧0<i.size,rfl,rfl,Iff.rfl,fun s2 ha=>⟨_,?_,Iff.rfl⟩⟩
    grind[Op.operands]
   grind
 case buildSlice e len parts =>
  cases dst with
  | none=>cases he
  | some d =>
   have hpe:∀ s2:S,agree ops ⟨some d,.buildSlice e len parts,ty,pos,after,guard⟩ s.t s2.t→(parts.toList.map fun x=>(x.1,opd s2.t x.2))=parts.toList.map fun x=>(x.1,opd s.t x.2):=fun s2 ha=>List.map_congr_left fun x hx=>by
    grind[Op.operands]
   simp only[opS]at he ⊢
   unfold qbo at he
   split at he
   ·rename_i e0 _ _ _ hT
    split at he
    ·rename_i ie hE
     split at he
     ·rename_i els hS
      obtain⟨rfl,rfl⟩:=he
      refine⟨d,_,_,_,_,rfl,rfl,Iff.rfl,fun s2 ha=>⟨_,?_,Iff.rfl⟩⟩
      grind[qbo]
     grind
    grind
   grind
 case makeSlice e x y =>
  cases dst with
  | none=>cases he
  | some d =>
   simp only[opS]at he ⊢
   unfold evMake at he
   split at he
   ·rename_i k1 l k2 c hx hy
    split at he
    ·rename_i e0 _ _ _ hT
     split at he
     ·rename_i ie hE
      obtain⟨rfl,rfl⟩:=he
      refine⟨d,_,_,_,_,rfl,rfl,Iff.rfl,fun s2 ha=>⟨_,?_,Iff.rfl⟩⟩
      grind[Op.operands,evMake]
     grind
    grind
   grind
theorem outS_mono {d:Option Nat} {r:Option (Prop×S)} (hk:∀ p s',r=some (p,s')→K s'→K' s') (h:outS n d r K):outS n d r K':=by
 unfold outS at *
 grind
theorem callF_mono {v:AV} {args:List AV} {d:Option Nat} (hk:∀ s',(∃ x,s'.t=putA s.t d x)→K s'→K' s') (h:callF P n v args d s K):callF P n v args d s K':=by
 unfold callF at *
 split at h
 ·obtain⟨h1,h2,hv,pl,argsC,L,R,h3,h4,h5⟩:=h
  refine⟨h1,h2,hv,pl,argsC,L,R,h3,h4,fun r L' hr=>?_⟩
  obtain⟨φ,h6,h7⟩:=h5 r L' hr
  exact⟨φ,h6,hk _ ⟨_,rfl⟩ h7⟩
 omega
def keeps (it:Itm) (o:Oper) (s s':S):Prop:=(∀ x,o.dst≠some x→s'.t x=s.t x)∧avOk it.av s.h s'.h
theorem avOk_refl {av:List Nat}:avOk av h h:=avOk_spec.2 fun _ _=>rfl
theorem stepN_keep {it:Itm} {o:Oper} (h:stepN P n ops it o s K):stepN P n ops it o s (fun s'=>K s'∧keeps it o s s'):=by
 unfold stepN at *
 split at h
 ·rename_i hv
  rw[if_pos hv]
  split at h
  ·exact⟨h.1,h.2.1,h.2.2,fun x hx=>putA_ne hx,avOk_refl⟩
  omega
 ·rename_i hv
  rw[if_neg hv]
  split at h
  ·exact callF_mono (fun s' ⟨x,hx⟩ hk=>⟨hk.1,hk.2,fun y hy=>by simp_all[putA_ne],hk.1⟩) h
  ·refine⟨h.1,outS_mono (fun p s' he hk=>⟨hk.1,hk.2,fun y hy=>?_,hk.1⟩) h.2⟩
   obtain⟨x,hx⟩:=opS_t he
   simp_all[putA_ne]
theorem guardN_keep {it:Itm} {o:Oper} (h:qar P n ops it o s K):qar P n ops it o s (fun s'=>K s'∧keeps it o s s'):=by
 unfold qar at *
 split at h
 ·grind[stepN_keep]
 ·exact⟨h.1,h.2,fun x hx=>putA_ne hx,avOk_refl⟩
 omega
theorem stepN_mono {it:Itm} {o:Oper} (hk:∀ s,K s→K' s) (h:stepN P n ops it o s K):stepN P n ops it o s K':=by
 grind[stepN,callF_mono,outS_mono]
theorem guardN_mono {it:Itm} {o:Oper} (hk:∀ s,K s→K' s) (h:qar P n ops it o s K):qar P n ops it o s K':=by
 grind[qar,stepN_mono]
theorem putA_comm {t:Tm} {d:Option Nat} {k:Nat} {v x:AV} (h:d≠some k):putA (upd t k v) d x=upd (putA t d x) k v:=by
 cases d with
 | none=>rfl
 | some j=>exact upd_comm t v x (by grind)
theorem gOk_agree {o:Oper} {rd:List Nat} (ha:agree ops o t t'):gOk rd o.op t'↔gOk rd o.op t:=by
 have hop:∀ y,y∈o.op.operands.toList→opd t' y=opd t y:=fun y hy=>agree_opd ha hy
 unfold gOk
 grind[Op.operands,Call.operands]
theorem gMay_A {op:Op} {rd:List Nat} (h:isA op=true):gMay rd op=false:=by
 cases op <;> simp[isA]at h <;> rfl
theorem stepN_put {it:Itm} {o:Oper} {k:Nat} {v:AV} {u:Us} (ha:agree ops o t (upd t k v)) (hd:o.dst≠some k) (hs:stepN P n ops it o ⟨upd t k v,h,u⟩ K) :
  stepN P n ops it o ⟨t,h,u⟩ (fun s'=>K ⟨upd s'.t k v,s'.h,s'.u⟩):=by
 unfold stepN at *
 split at hs
 ·grind[agree_evVal,putA_comm]
 ·rename_i hv
  rw[if_neg hv]
  split at hs
  ·rename_i x args tys ho
   have hop:∀ y,y∈o.op.operands.toList→opd (upd t k v) y=opd t y:=fun y hy=>agree_opd ha hy
   rw[ho]at hop
   have e1:opd (upd t k v) x=opd t x:=hop x (by simp[Op.operands,Call.operands])
   have e2:args.toList.map (opd (upd t k v))=args.toList.map (opd t):=List.map_congr_left fun y hy=>hop y (by grind[Op.operands,Call.operands])
   simp only[e1,e2]at hs
   unfold callF at *
   split at hs
   ·rename_i f cap hx
    simp only[hx]
    obtain⟨h1,h2,hv,pl,argsC,L,R,h3,h4,h5⟩:=hs
    refine⟨h1,h2,hv,pl,argsC,L,R,⟨h3.view,h3.mt,h3.nod,h3.obs,h3.keys,h3.liv⟩,h4,fun r L' hr=>?_⟩
    obtain⟨φ,h6,h7,h8⟩:=h5 r L' hr
    refine⟨φ,⟨h6.lone,h6.nod,h6.new,h6.unu,h6.kin,h6.sub⟩,h7,?_⟩
    grind[qae,putA_comm]
   omega
  ·refine⟨fun hm=>(gOk_agree ha).1 (hs.1 hm),?_⟩
   have hs:=hs.2
   rw[opS_put ha hd]at hs
   unfold outS putR at *
   grind
theorem guardN_put {it:Itm} {o:Oper} {k:Nat} {v:AV} {u:Us} (ha:agree ops o t (upd t k v)) (hd:o.dst≠some k) (hs:qar P n ops it o ⟨upd t k v,h,u⟩ K) :
  qar P n ops it o ⟨t,h,u⟩ (fun s'=>K ⟨upd s'.t k v,s'.h,s'.u⟩):=by
 grind[qar,agree_fires,stepN_put,putA_comm]
theorem guardN_putA {it:Itm} {o:Oper} {k:Option Nat} {v:AV} {u:Us} (ha:∀ d,k=some d→d ∉ o.looksAt ops) (hd:∀ d,k=some d→o.dst≠some d) (hs:qar P n ops it o ⟨putA t k v,h,u⟩ K) :
  qar P n ops it o ⟨t,h,u⟩ (fun s'=>K ⟨putA s'.t k v,s'.h,s'.u⟩):=by
 cases k with
 | none=>exact hs
 | some k=>exact guardN_put (fun i hi=>qam _ _ (by grind)) (hd k rfl) hs
theorem rstH_of {rd:List Nat} (hh:∀ id∈rd,h' id=h id):rstH rd h'=rstH rd h:=by
 grind[rstH]
theorem swapV {ii ij:Itm} {oi oj:Oper} (hv:isV oi.op=true) (hap:oi.apart ops oj=true) (hrd:∀ id∈ii.rd,id∈ij.av) (hs:qar P n ops ii oi s (fun s1=>qar P n ops ij oj s1 K)) :
  qar P n ops ij oj s (fun s2=>qar P n ops ii oi s2 K):=by
 obtain⟨h1,h2,h3⟩:=Oper.apart_spec hap
 have hVY:∃ w,(match oi.dst with | some d=>d<n | none=>True)∧qar P n ops ij oj ⟨putA s.t oi.dst w,s.h,s.u⟩ K ∧
   ∀ s2:S,agree ops oi s.t s2.t→(∀ id∈ii.rd,s2.h id=s.h id)→K ⟨putA s2.t oi.dst w,s2.h,s2.u⟩→qar P n ops ii oi s2 K:=by
  unfold qar at hs
  split at hs
  all_goals grind[stepN,qar,agree_fires,agree_evVal,rstH_of]
 obtain⟨w,hn,hj,hback⟩:=hVY
 have:=guardN_keep (guardN_putA (t:=s.t) (h:=s.h) (u:=s.u) (fun d hd=>h1 d hd) (fun d hd=>h2 d hd) hj)
 refine guardN_mono (fun s2 hk=>?_) this
 obtain⟨hk,hkt,hkh⟩:=hk
 refine hback s2 (fun i hi=>hkt i fun hd=>h3 i hd hi) (fun id hid=>avOk_spec.1 hkh id (hrd id hid)) hk
theorem vwOk_more (hm:∀ id o,h id=some o→h' id=some o) {ids:List Nat} {sz:Nat} {els:List (List AV)} {x:AV} (hv:vwOk h ids sz els x):vwOk h' ids sz els x:=by
 cases x <;> grind[vwOk] <;> try exact hv
 all_goals grind
mutual
theorem mtA_more (hm:∀ id o,h id=some o→h' id=some o) {ids:List Nat} {ρ:Nat→Option Plc}:∀ {a x:AV},mtA h ids ρ a x→mtA h' ids ρ a x
 | .lst sz els,x,hv=>by grind[mtA,vwOk_more]
 | .agg cs,x,hv=>by
  cases x <;> simp only[mtA]at hv ⊢
  exact mtL_more hm hv
 | .tup cs,x,hv=>by
  cases x <;> simp only[mtA]at hv ⊢
  exact mtL_more hm hv
 | .fn f cs,x,hv=>by
  cases x <;> simp only[mtA]at hv ⊢
  exact⟨hv.1,mtL_more hm hv.2⟩
 | .top,x,hv=>by simp[mtA]
 | .ptr _ _ _,x,hv=>by grind[mtA]
 | .sl _ _ _,x,hv=>by grind[mtA]
 | .slc _ _ _ _,x,hv=>by grind[mtA]
 | .bsl _ _ _ _ _,x,hv=>by grind[mtA]
 | .int _ _,x,hv=>by grind[mtA]
 | .bool _,x,hv=>by grind[mtA]
 | .str _,x,hv=>by grind[mtA]
 | .nilp,x,hv=>by grind[mtA]
 | .nils,x,hv=>by grind[mtA]
 | .nili,x,hv=>by grind[mtA]
 | .ifc,x,hv=>by grind[mtA]
 | .anyb,x,hv=>by grind[mtA]
 | .any1,x,hv=>by grind[mtA]
 | .elm _,x,hv=>by grind[mtA]
theorem mtL_more (hm:∀ id o,h id=some o→h' id=some o) {ids:List Nat} {ρ:Nat→Option Plc}:∀ {as xs:List AV},mtL h ids ρ as xs→mtL h' ids ρ as xs
 | [],xs,hv=>by grind[mtL]
 | a::r,[],hv=>by grind[mtL]
 | a::r,x::xs,hv=>by exact⟨mtA_more hm hv.1,mtL_more hm hv.2⟩
end
theorem mtRs_more (hm:∀ id o,h id=some o→h' id=some o) {ids:List Nat} {ρ:Nat→Option Plc}:∀ {as xs:List (List AV)},mtRs h ids ρ as xs→mtRs h' ids ρ as xs
 | [],xs,hv=>by grind[mtRs]
 | a::r,[],hv=>by grind[mtRs]
 | a::r,x::xs,hv=>by exact⟨mtL_more hm hv.1,mtRs_more hm hv.2⟩
theorem inMt1_more (hm:∀ id o,h id=some o→h' id=some o) {hv hv':Hp} (hmv:∀ id o,hv id=some o→hv' id=some o) {ids:List Nat} {ρ:Nat→Option Plc} {o:Ob} {p:Plc} (hi:inMt1 hv h ids ρ o p):inMt1 hv' h' ids ρ o p:=by
 cases p with
 | whole id =>
  obtain⟨O,h1,h2,h3⟩:=hi
  refine⟨O,hm _ _ h1,h2,?_⟩
  rcases h3 with(h3 | h3) | ⟨cs,ds,e1,e2,h3⟩
  ·exact .inl (.inl h3)
  ·exact .inl (.inr (mtRs_more hmv h3))
  ·exact .inr ⟨cs,ds,e1,e2,mtL_more hmv h3⟩
 | sub id e0 o0 m =>
  obtain⟨O,cs,h1,h2,h3,h4,h5,h6,h7⟩:=hi
  exact⟨O,cs,hm _ _ h1,h2,h3,h4,h5,h6,mtL_more hmv h7⟩
theorem remH_upd {d:Nat} {ob:Ob}:∀ {pl:List (Nat×Plc)},(∀ x∈pl,x.2.id≠d)→remH (upd h d (some ob)) pl=upd (remH h pl) d (some ob)
 | [],_=>rfl
 | (c,.whole id)::r,hd=>by
  simp only[remH]
  rw[remH_upd fun x hx=>hd x (List.mem_cons_of_mem _ hx)]
  have:id≠d:=hd (c,.whole id) (by simp)
  grind[upd_comm]
 | (c,.sub _ _ _ _)::r,hd=>by
  simp only[remH]
  exact remH_upd fun x hx=>hd x (List.mem_cons_of_mem _ hx)
theorem putH_upd {h0:Hp} {d:Nat} {ob:Ob} {ρ:Nat→Option Plc} (hρ:∀ c p,ρ c=some p→p.id≠d):∀ {L:List (Nat×Ob)} {h:Hp},putH (upd h0 d (some ob)) ρ (upd h d (some ob)) L=upd (putH h0 ρ h L) d (some ob)
 | [],_=>rfl
 | (c,o)::r,h=>by
  simp only[putH,putH1]
  rw[putH_upd hρ]
  cases hc:ρ c with
  | none=>rfl
  | some p =>
   have hp:=hρ c p hc
   cases p with
   | whole id=>exact upd_comm _ _ _ (Ne.symm hp)
   | sub id e0 o0 m =>
    simp only
    have:(upd h0 d (some ob)) id=h0 id:=qam _ _ hp
    rw[this]
    cases h0 id with
    | none=>rfl
    | some O=>exact upd_comm _ _ _ (Ne.symm hp)
theorem ren2_id {pl:List (Nat×Plc)} {φ:List (Nat×Nat)} {c:Nat} {p:Plc} (hp:ren2 pl φ c=some p):p.id∈pl.map (·.2.id)∨p.id∈φ.map (·.2):=by
 unfold ren2 at hp
 split at hp
 ·rename_i q hq
  injection hp with hp;subst hp
  exact .inl (List.mem_map.2 ⟨_,qbx hq,rfl⟩)
 ·split at hp
  ·rename_i id hq
   injection hp with hp;subst hp
   exact .inr (List.mem_map.2 ⟨_,phOf_mem hq,rfl⟩)
  grind
theorem isA_V {op:Op} (h:isA op=true):isV op=false∧(∀ c,op≠.call c):=by
 cases op <;> simp[isA]at h <;> simp[isV]
theorem S.eqs {a b:S} (h1:a.t=b.t) (h2:a.h=b.h) (h3:a.u=b.u):a=b:=by
 cases a;simp_all
theorem swapC {ii ij:Itm} {oi oj:Oper} (hF:isF oi.op=true) (hA:isA oj.op=true) (hg:oj.guard=none) (hap:oi.apart ops oj=true) (hok:aOk P oj s) (hdn:∀ d,oj.dst=some d→d<n) (hav:∀ d,oj.dst=some d→d ∉ ij.av)
  (hs:qar P n ops ii oi s (fun s1=>qar P n ops ij oj s1 K)):qar P n ops ij oj s (fun s2=>qar P n ops ii oi s2 K):=by
 obtain⟨h1,h2,h3⟩:=Oper.apart_spec hap
 obtain⟨hok1,hok2⟩:=hok
 cases he:opS P oj s with
 | none=>grind
 | some r =>
 obtain⟨q,s'⟩:=r
 rw[he]at hok1
 obtain⟨d,sz,els,v,q0,hd,rfl,hq,hall⟩:=opS_A hA he
 rw[hd]at hok2
 have hfj:∀ t,fires ops oj t=some true:=fun t=>by grind[fires]
 have hnv:=isA_V hA
 have mk:∀ (s2:S) (K2:S→Prop),qar P n ops ij oj s2 K2↔outS n oj.dst (opS P oj s2) (fun s'=>avOk ij.av s2.h s'.h∧K2 s'):=fun s2 K2=>by
  grind[qar,stepN,gMay_A]
 have mk2:∀ (s2:S) (K2:S→Prop),agree ops oj s.t s2.t→qar P n ops ij oj s2 K2→d ∉ s2.u∧K2 (evNew d s2 sz els v):=fun s2 K2 ha hk=>by
  obtain⟨p2,e2,hp2⟩:=hall s2 ha
  grind[outS]
 have havs:∀ (hh:Hp) (ob:Ob),avOk ij.av hh (upd hh d (some ob)):=fun hh ob=>avOk_spec.2 fun id hid=>qam _ _ (by grind)
 rw[mk,he]
 refine⟨hok1,by grind,havs _ _,?_⟩
 have hagi:agree ops oi s.t (upd s.t d v):=fun i hi=>qam _ _ (by grind)
 have hdi:oi.dst≠some d:=fun e=>h2 d e hd
 unfold qar at hs ⊢
 have hfi:fires ops oi (evNew d s sz els v).t=fires ops oi s.t:=agree_fires hagi
 rw[hfi]
 split at hs
 ·rename_i hf
  show _
  unfold stepN at hs ⊢
  have hvi:¬ isV oi.op=true:=by
   cases hoi:oi.op <;> rw[hoi]at hF <;> simp[isF]at hF ⊢ <;> try (simp[isV];done)
   rename_i c
   obtain⟨callee,args,tys⟩:=c
   cases callee <;> simp[isF]at hF;rfl
  rw[if_neg hvi]at hs ⊢
  split at hs
  ·rename_i x args tys ho
   show _
   have hop:∀ y,y∈oi.op.operands.toList→opd (upd s.t d v) y=opd s.t y:=fun y hy=>agree_opd hagi hy
   rw[ho]at hop
   have e1:opd (evNew d s sz els v).t x=opd s.t x:=hop x (by simp[Op.operands,Call.operands])
   have e2:args.toList.map (opd (evNew d s sz els v).t)=args.toList.map (opd s.t):=List.map_congr_left fun y hy=>hop y (by grind[Op.operands,Call.operands])
   rw[e1,e2]
   unfold callF at hs ⊢
   split at hs
   ·rename_i f cap hx
    show _
    obtain⟨g1,g2,hv,pl,argsC,L,R,hin,hC,hR⟩:=hs
    have hmore:∀ id o,s.h id=some o→(upd s.h d (some ⟨sz,els⟩)) id=some o:=fun id o ho=>by
     grind[qam]
    have hpd:∀ x∈pl,x.2.id≠d:=fun x hx e=>by
     have:=hin.liv x hx
     grind
    have hin':∃ hv',CallIn (evNew d s sz els v) hv' pl (args.toList.map (opd s.t)++cap) argsC L∧(hv=(fun _=>none)→hv'=fun _=>none):=by
     have hliv:∀ x,x∈pl→((evNew d s sz els v).h x.2.id).isSome=true:=fun x hx=>by
      show((upd s.h d (some ⟨sz,els⟩)) x.2.id).isSome=true
      rw[qam _ _ (hpd x hx)];exact hin.liv x hx
     by_cases hnone:hv=fun _=>none
     ·exact⟨hv,⟨.inr hnone,hin.mt,hin.nod,fun x hx=>(hin.obs x hx).imp fun p hp=>⟨hp.1,inMt1_more hmore (fun _ _ h=>h) hp.2⟩,hin.keys,hliv⟩,fun h=>h⟩
     ·have hvs:hv=s.h:=hin.view.resolve_right hnone
      subst hvs
      exact⟨upd s.h d (some ⟨sz,els⟩),⟨.inl rfl,mtL_more hmore hin.mt,hin.nod,fun x hx=>(hin.obs x hx).imp fun p hp=>⟨hp.1,inMt1_more hmore hmore hp.2⟩,hin.keys,hliv⟩,fun h=>absurd h hnone⟩
    obtain⟨hv',hin',hvn⟩:=hin'
    refine⟨g1,g2,hv',pl,argsC,L,R,hin',hC,fun r L' hr=>?_⟩
    obtain⟨φ,hco,hav1,hj⟩:=hR r L' hr
    have hagj:agree ops oj s.t (qae s pl φ oi.dst r L').t:=fun i hi=>putA_ne (fun e=>h1 i e hi)
    obtain⟨hdu,hK⟩:=mk2 _ _ hagj hj
    have hdφ:d ∉ φ.map (·.2):=fun hm=>hdu (.inl hm)
    have hρd:∀ c p,ren2 pl φ c=some p→p.id≠d:=fun c p hp e=>by
     rcases ren2_id hp with hm | hm
     all_goals grind
    have hh:(qae (evNew d s sz els v) pl φ oi.dst r L').h=upd (qae s pl φ oi.dst r L').h d (some ⟨sz,els⟩):=by
     grind[qae,evNew,remH_upd,putH_upd]
    have hst:qae (evNew d s sz els v) pl φ oi.dst r L'=evNew d (qae s pl φ oi.dst r L') sz els v:=by
     grind[qae,evNew,putA_comm,Us.cons_app]
    refine⟨φ,⟨?_,hco.nod,hco.new,fun x hx=>?_,hco.kin,hco.sub⟩,?_,?_⟩
    ·exact hco.lone.imp hvn id
    ·rintro(e | e)
     ·grind
     ·exact hco.unu x hx e
    ·rw[hh]
     refine avOk_spec.2 fun id hid=>?_
     by_cases e:id=d
     ·subst e;rw[qaj];exact(qaj _ _ _).symm
     ·rw[qam _ _ e]
      show _=upd s.h d (some ⟨sz,els⟩) id
      grind[qam,avOk_spec]
    grind
   omega
  grind[isF]
 ·rename_i hf
  show _
  refine⟨hs.1,?_⟩
  have hagj:agree ops oj s.t (putA s.t oi.dst (.tup [])):=fun i hi=>putA_ne (fun e=>h1 i e hi)
  obtain⟨_,hK⟩:=mk2 _ _ hagj hs.2
  grind[evNew,putA_comm]
 omega
end
end Go.Av

namespace Go.Av
abbrev zI(n:Nat):Itm:=⟨n,[],[],[],[]⟩
abbrev zJ(n:Nat)(a b:List Nat):Itm:=⟨n,a,b,[],[]⟩
end Go.Av
end
section
namespace Go.Av
open Go.RowKit
section
variable {P:Program} {n:Nat} {ops:Array Oper} {s:S} {K K':S→Prop}
theorem mkN {it:Itm} {o:Oper} (hA:isA o.op=true) (hg:o.guard=none):qar P n ops it o s K↔outS n o.dst (opS P o s) (fun s'=>avOk it.av s.h s'.h∧K s'):=by
 grind[fires,isA_V,qar,stepN,gMay_A]
theorem swapA {ii ij:Itm} {oi oj:Oper} (hA1:isA oi.op=true) (hg1:oi.guard=none) (hA:isA oj.op=true) (hg:oj.guard=none) (hap:oi.apart ops oj=true) (hav1:∀ d,oi.dst=some d→d ∉ ii.av) (hav:∀ d,oj.dst=some d→d ∉ ij.av)
  (hs:qar P n ops ii oi s (fun s1=>qar P n ops ij oj s1 K)):qar P n ops ij oj s (fun s2=>qar P n ops ii oi s2 K):=by
 obtain⟨h1,h2,h3⟩:=Oper.apart_spec hap
 rw[mkN hA1 hg1]at hs
 unfold outS at hs
 split at hs
 ·rename_i p1 s1 he1
  obtain⟨hp1,hd1,_,hj⟩:=hs
  obtain⟨d1,sz1,els1,v1,q1,hdd1,rfl,hq1,hall1⟩:=opS_A (ops:=ops) hA1 he1
  rw[mkN hA hg]at hj
  unfold outS at hj
  split at hj
  ·rename_i p2 s2 he2
   obtain⟨hp2,hd2,_,hK⟩:=hj
   obtain⟨d2,sz2,els2,v2,q2,hdd2,rfl,hq2,hall2⟩:=opS_A (ops:=ops) hA he2
   have hne:d1≠d2:=fun e=>h2 d1 hdd1 (by grind)
   have ha2:agree ops oj (evNew d1 s sz1 els1 v1).t s.t:=fun i hi=>(qam _ _ (by grind)).symm
   obtain⟨p2',e2',hq2'⟩:=hall2 s ha2
   have hq2v:=hq2.1 hp2
   have hd2u:d2 ∉ s.u:=fun h=>hq2v.1 (.inr h)
   rw[mkN hA hg,e2']
   refine⟨hq2'.2 ⟨hd2u,hq2v.2⟩,hd2,avOk_spec.2 fun id hid=>qam _ _ (by grind),?_⟩
   have ha1:agree ops oi s.t (evNew d2 s sz2 els2 v2).t:=fun i hi=>qam _ _ (by grind)
   obtain⟨p1',e1',hq1'⟩:=hall1 _ ha1
   rw[mkN hA1 hg1,e1']
   have hd1u:d1 ∉ (evNew d2 s sz2 els2 v2).u:=fun h=>h.elim (fun e=>hne e) (hq1.1 hp1).1
   refine⟨hq1'.2 ⟨hd1u,(hq1.1 hp1).2⟩,hd1,avOk_spec.2 fun id hid=>qam _ _ (by grind),?_⟩
   grind[evNew,upd_comm,Us.cons_cons]
  grind
 grind
def isN (rd:List Nat) (op:Op):Bool:=isA op || gMay rd op
def rmC (c:List Nat) (h:Hp):Hp:=fun i=>if c.contains i then none else h i
def nw (d:Nat) (ob:Ob) (v:AV) (c:List Nat) (s:S):S:=⟨upd s.t d v,upd (rmC c s.h) d (some ob),Us.cons d s.u⟩
theorem rmC_one (id:Nat) (h:Hp):rmC [id] h=upd h id none:=by
 grind[rmC,upd]
theorem opS_N {o:Oper} {rd:List Nat} (hN:isN rd o.op=true) (hg:gMay rd o.op=true→gOk rd o.op s.t) {p:Prop} {s':S} (he:opS P o s=some (p,s')):∃ (d:Nat) (ob:Ob) (v:AV) (q0:Prop) (c:List Nat),o.dst=some d ∧
  (∀ id∈c,id∈rd.drop 1∧(s.h id).isSome=true)∧s'=nw d ob v c s∧(p↔d ∉ s.u∧q0) ∧
  ∀ s2:S,agree ops o s.t s2.t→(∀ id∈c,s2.h id=s.h id)→∃ p2,opS P o s2=some (p2,nw d ob v c s2)∧(p2↔d ∉ s2.u∧q0):=by
 unfold isN at hN
 simp only[Bool.or_eq_true]at hN
 rcases hN with hA | hG
 ·obtain⟨d,sz,els,v,q0,hd,rfl,hq,hall⟩:=opS_A (ops:=ops) hA he
  refine⟨d,⟨sz,els⟩,v,q0,[],hd,by simp,by rfl,hq,fun s2 ha _=>?_⟩
  obtain⟨p2,e2,h2⟩:=hall s2 ha
  exact⟨p2,by exact e2,h2⟩
 ·have hgk:=hg hG
  obtain⟨dst,op,ty,pos,after,guard⟩:=o
  have hop:∀ {s2:S},agree ops ⟨dst,op,ty,pos,after,guard⟩ s.t s2.t→∀ x,x∈op.operands.toList→opd s2.t x=opd s.t x:=fun ha x hx=>agree_opd ha hx
  simp only at hgk hG he ⊢
  unfold gOk at hgk
  split at hgk
  ·rename_i args tys
   split at hgk
   ·rename_i x y hxy
    obtain⟨g1,g2⟩:=hgk
    have hop2:∀ {s2:S},agree ops ⟨dst,.call ⟨.builtin .append,args,tys⟩,ty,pos,after,guard⟩ s.t s2.t→opd s2.t x=opd s.t x∧opd s2.t y=opd s.t y:=fun ha=>⟨hop ha x (by grind[Op.operands,Call.operands]),hop ha y (by grind[Op.operands,Call.operands])⟩
    cases dst with
    | none=>grind[opS]
    | some d =>
     simp only[opS,hxy]at he ⊢
     split at he
     ·rename_i a b t1 t2 hab htt
      injection hab with hab1 hab2
      injection hab2 with hab2 _
      subst hab1;subst hab2
      cases hx:opd s.t x with
      | sl id e0 len =>
       rw[hx]at g1 he
       cases hy:opd s.t y with
       | lst sz els =>
        rw[hy]at he
        have hev:∀ (s2:S),evApp P s2 d t1 t2 (.sl id e0 len) (.lst sz els)=evAppend P s2 d t1 t2 (.sl id e0 len) (.lst sz els):=fun _=>rfl
        rw[hev]at he
        unfold evAppend at he
        split at he
        ·rename_i e _ _ _ _ _ _ _ hT1 hT2
         split at he
         ·rename_i ie q sz2 ys hE hS
          simp only at he
          split at he
          ·rename_i o ho
           obtain⟨rfl,rfl⟩:=he
           refine⟨d,⟨ie.size,(o.els.drop e0).take len++ys⟩,.sl d 0 (len+ys.length),_,[id],rfl,fun i hi=>?_,by simp[nw,rmC_one],Iff.rfl,fun s2 ha hh=>⟨_,?_,Iff.rfl⟩⟩
           all_goals grind[qba,evAppend,nw,rmC_one]
          grind
         grind
        grind
       | _=>grind
      | _=>grind
     grind
   grind
  grind[isG,gMay]
theorem isN_ne {rd:List Nat} {op:Op} (h:isN rd op=true):isV op=false∧∀ x args tys,op≠.call ⟨.value x,args,tys⟩:=by
 unfold isN at h
 simp only[Bool.or_eq_true]at h
 rcases h with h | h
 ·grind[isA_V]
 ·unfold gMay isG at h
  simp only[Bool.and_eq_true]at h
  have:=h.1
  split at this
  ·exact⟨rfl,fun _ _ _ h=>by grind⟩
  grind
theorem mkNN {it:Itm} {o:Oper} (hN:isN it.rd o.op=true) (hg:o.guard=none):qar P n ops it o s K↔(gMay it.rd o.op=true→gOk it.rd o.op s.t)∧outS n o.dst (opS P o s) (fun s'=>avOk it.av s.h s'.h∧K s'):=by
 grind[fires,isN_ne,qar,stepN]
def NN (n:Nat) (it:Itm) (o:Oper):Prop:=isN it.rd o.op=true∧o.guard=none∧(∀ d,o.dst=some d→d<n∧d ∉ it.av)∧∀ id∈it.rd.drop 1,id ∉ it.av
theorem swapNN {ii ij:Itm} {oi oj:Oper} (hi:NN n ii oi) (hj:NN n ij oj) (hap:oi.apart ops oj=true) (hdi:∀ d,oi.dst=some d→d ∉ ij.rd.drop 1) (hdj:∀ d,oj.dst=some d→d ∉ ii.rd.drop 1) (hrr:∀ id∈ii.rd.drop 1,id ∉ ij.rd.drop 1)
  (hs:qar P n ops ii oi s (fun s1=>qar P n ops ij oj s1 K)):qar P n ops ij oj s (fun s2=>qar P n ops ii oi s2 K):=by
 obtain⟨h1,h2,h3⟩:=Oper.apart_spec hap
 obtain⟨hN1,hg1,ha1,hr1⟩:=hi
 obtain⟨hN2,hg2,ha2,hr2⟩:=hj
 rw[mkNN hN1 hg1]at hs
 obtain⟨hk1,hs⟩:=hs
 unfold outS at hs
 split at hs
 ·rename_i p1 s1 he1
  obtain⟨hp1,hd1,_,hjj⟩:=hs
  obtain⟨d1,ob1,v1,q1,c1,hdd1,hc1,rfl,hq1,hall1⟩:=opS_N (ops:=ops) hN1 hk1 he1
  rw[mkNN hN2 hg2]at hjj
  obtain⟨hk2,hjj⟩:=hjj
  unfold outS at hjj
  split at hjj
  ·rename_i p2 s2 he2
   obtain⟨hp2,hd2,_,hK⟩:=hjj
   obtain⟨d2,ob2,v2,q2,c2,hdd2,hc2,rfl,hq2,hall2⟩:=opS_N (ops:=ops) hN2 hk2 he2
   have hne:d1≠d2:=fun e=>h2 d1 hdd1 (by grind)
   have n1:∀ id∈c2,id≠d1:=fun id hid=>by grind
   have n2:∀ id∈c1,id≠d2:=fun id hid=>by grind
   have n3:∀ id∈c1,id ∉ c2:=fun id hid h=>hrr id (hc1 id hid).1 (hc2 id h).1
   have hh2:∀ id∈c2,s.h id=(nw d1 ob1 v1 c1 s).h id:=fun id hid=>by
    show _=upd (rmC c1 s.h) d1 (some ob1) id
    grind[qam,rmC]
   have agr2:agree ops oj (nw d1 ob1 v1 c1 s).t s.t:=fun i hi=>(qam _ _ (by grind)).symm
   obtain⟨p2',e2',hq2'⟩:=hall2 s agr2 hh2
   have hq2v:=hq2.1 hp2
   have hd2u:d2 ∉ s.u:=fun h=>hq2v.1 (.inr h)
   rw[mkNN hN2 hg2,e2']
   refine⟨fun hm=>(gOk_agree (ops:=ops) agr2).2 (hk2 hm),?_⟩
   unfold outS
   have av2:avOk ij.av s.h (nw d2 ob2 v2 c2 s).h:=avOk_spec.2 fun id hid=>by
    show upd (rmC c2 s.h) d2 (some ob2) id=_
    grind[qam,rmC]
   refine⟨hq2'.2 ⟨hd2u,hq2v.2⟩,hd2,av2,?_⟩
   have agr1:agree ops oi s.t (nw d2 ob2 v2 c2 s).t:=fun i hi=>qam _ _ (by grind)
   have hh1:∀ id∈c1,(nw d2 ob2 v2 c2 s).h id=s.h id:=fun id hid=>by
    show upd (rmC c2 s.h) d2 (some ob2) id=_
    grind[qam,rmC]
   obtain⟨p1',e1',hq1'⟩:=hall1 _ agr1 hh1
   rw[mkNN hN1 hg1,e1']
   refine⟨fun hm=>(gOk_agree (ops:=ops) agr1).2 (hk1 hm),?_⟩
   unfold outS
   have hd1u:d1 ∉ (nw d2 ob2 v2 c2 s).u:=fun h=>h.elim (fun e=>hne e) (hq1.1 hp1).1
   refine⟨hq1'.2 ⟨hd1u,(hq1.1 hp1).2⟩,hd1,avOk_spec.2 fun id hid=>?_,?_⟩
   ·show upd (rmC c1 _) d1 (some ob1) id=_
    grind[qam,rmC]
   ·have:nw d1 ob1 v1 c1 (nw d2 ob2 v2 c2 s)=nw d2 ob2 v2 c2 (nw d1 ob1 v1 c1 s):=by
     refine S.eqs ?_ ?_ ?_
     ·grind[nw,upd_comm]
     ·funext i
      simp only[nw,upd,rmC]
      grind
     simp[nw,Us.cons_cons]
    grind
  grind
 grind
theorem aOk_keep {ij:Itm} {oj:Oper} (hA:isA oj.op=true) (hg:oj.guard=none) (hs:qar P n ops ij oj s K):
  qar P n ops ij oj s (fun s2=>K s2∧∀ o',isA o'.op=true→oj.apart ops o'=true→aOk P o' s→aOk P o' s2):=by
 rw[mkN hA hg]at hs ⊢
 refine outS_mono (fun p s2 he hk=>⟨hk.1,hk.2,fun o' hA' hap hok=>?_⟩) hs
 obtain⟨h1,h2,h3⟩:=Oper.apart_spec hap
 obtain⟨d,sz,els,v,q,hd,rfl,hq,_⟩:=opS_A (ops:=ops) hA he
 obtain⟨hok1,hok2⟩:=hok
 cases he':opS P o' s with
 | none=>grind
 | some r =>
  obtain⟨p',s'⟩:=r
  rw[he']at hok1
  obtain⟨d',sz',els',v',q',hd',rfl,hq',hall'⟩:=opS_A (ops:=ops) hA' he'
  obtain⟨p2,e2,hp2⟩:=hall' (evNew d s sz els v) (fun i hi=>qam _ _ (by grind))
  have hne:d'≠d:=fun e=>h2 d hd (by grind)
  refine⟨?_,?_⟩
  ·rw[e2]
   exact hp2.2 ⟨fun h=>h.elim hne (hq'.1 hok1).1,(hq'.1 hok1).2⟩
  ·rw[hd']at hok2 ⊢
   show upd s.h d _ d'=none
   grind[qam]
def opN (P:Program) (n:Nat) (ops:Array Oper) (ann:Nat→Itm) (i:Nat) (K:S→Prop) (s:S):Prop :=
 match ops[i]? with
 | none=>K s
 | some o=>qar P n ops (ann i) o s K
def wpAnyS (P:Program) (n:Nat) (ops:Array Oper) (ann:Nat→Itm) (Q:S→Prop):Nat→Array Bool→S→Prop
 | 0,listed,s=>Region.ready .any ops listed=[]∧Q s
 | fuel+1,listed,s=>(Region.ready .any ops listed=[]→Q s)∧∀ i∈Region.ready .any ops listed,opN P n ops ann i (wpAnyS P n ops ann Q fuel (listed.setIfInBounds i true)) s
def Cm (n:Nat) (ops:Array Oper) (ii ij:Itm) (oi oj:Oper):Prop :=
 oi.apart ops oj=true∧((isV oi.op=true∧∀ id∈ii.rd,id∈ij.av)∨(isF oi.op=true∧isA oj.op=true∧oj.guard=none∧(∀ d,oj.dst=some d→d<n∧d ∉ ij.av)) ∨
  (isA oi.op=true∧oi.guard=none∧(∀ d,oi.dst=some d→d ∉ ii.av)∧isA oj.op=true∧oj.guard=none∧(∀ d,oj.dst=some d→d<n∧d ∉ ij.av)) ∨
  (NN n ii oi∧NN n ij oj∧(∀ d,oi.dst=some d→d ∉ ij.rd.drop 1)∧(∀ d,oj.dst=some d→d ∉ ii.rd.drop 1)∧∀ id∈ii.rd.drop 1,id ∉ ij.rd.drop 1))
theorem isN_F {rd:List Nat} {op:Op} (h:isN rd op=true):isF op=false:=by
 have:=isN_ne h
 cases op <;> try rfl
 rename_i c
 obtain⟨callee,args,tys⟩:=c
 cases callee <;> try rfl
 grind
theorem swapN {ii ij:Itm} {oi oj:Oper} (hc:Cm n ops ii ij oi oj) (hok:isF oi.op=true→aOk P oj s) (hs:qar P n ops ii oi s (fun s1=>qar P n ops ij oj s1 K)) :
  qar P n ops ij oj s (fun s2=>qar P n ops ii oi s2 K):=by
 obtain⟨hap,hV | hF | hA | hN⟩:=hc
 all_goals simp_all[swapV,swapC,swapA,swapNN]
theorem wpAnyS_first {ann:Nat→Itm} {Q:S→Prop} {i:Nat} {oi:Oper} (hi:ops[i]?=some oi) (B:List Nat) (hBw:∀ b∈B,∀ ob,ops[b]?=some ob→∃ e∈ob.after,Region.binds .any e=true∧(e.on=i∨e.on∈B)) :
  ∀ (fuel:Nat) (listed:Array Bool) (U:List Nat) (s:S),U.length≤fuel→(∀ j,j∈Region.ready .any ops listed→j≠i→j∈U)→(∀ j,j<ops.size→listed.getD j true=false→j≠i→j∈U)→(∀ b∈B,listed.getD b true=false) →
   (∀ j oj,ops[j]?=some oj→j≠i→listed.getD j true=false→j ∉ B→Cm n ops (ann i) (ann j) oi oj∧(isF oi.op=true→aOk P oj s)) →
   (isF oi.op=true→∀ j j' oj oj',ops[j]?=some oj→ops[j']?=some oj'→j≠j'→j≠i→j'≠i→listed.getD j true=false→listed.getD j' true=false→j ∉ B→j' ∉ B→oj.apart ops oj'=true) →
   i∈Region.ready .any ops listed→opN P n ops ann i (wpAnyS P n ops ann Q fuel (listed.setIfInBounds i true)) s→wpAnyS P n ops ann Q (fuel+1) listed s:=by
 intro fuel
 induction fuel with
 | zero =>
  intro listed U s hU hr hu hB hc hAA hir H
  refine⟨fun h=>(by grind),fun j hj=>?_⟩
  grind
 | succ fuel ih =>
  intro listed U s hU hr hu hB hc hAA hir H
  refine⟨fun h=>(by grind),fun j hj=>?_⟩
  by_cases hji:j=i
  ·grind
  ·obtain⟨hjun,oj,hoj,hall⟩:=mem_ready.1 hj
   have hiun:=(mem_ready.1 hir).1
   have unl:∀ x,listed.getD x true=false→listed.getD x false=false:=fun x hx=>by
    grind
   have hjB:j ∉ B:=fun hb=>by
    grind
   obtain⟨hcm,hok⟩:=hc j oj hoj hji hjun hjB
   have h1:qar P n ops (ann i) oi s (fun s1=>qar P n ops (ann j) oj s1 (wpAnyS P n ops ann Q fuel ((listed.setIfInBounds i true).setIfInBounds j true))):=by
    unfold opN at H
    simp only[hi]at H
    refine guardN_mono (fun s1 h1=>?_) H
    have:=h1.2 j (ready_mono hj hji)
    grind[opN]
   have h2:=swapN hcm hok h1
   have hU':(U.erase j).length≤fuel:=by
    grind
   have hset:∀ x,(listed.setIfInBounds j true).getD x true=false→x≠j∧listed.getD x true=false:=fun x hx=>by
    by_cases hjx:j=x
    ·subst hjx
     exfalso
     rcases Nat.lt_or_ge j listed.size with h' | h'
     ·simp[h']at hx
     grind
    ·rw[getD_set_ne true hjx]at hx;grind
   have go:∀ s2,(∀ j' oj',ops[j']?=some oj'→j'≠i→(listed.setIfInBounds j true).getD j' true=false→j' ∉ B→isF oi.op=true→aOk P oj' s2) →
     qar P n ops (ann i) oi s2 (wpAnyS P n ops ann Q fuel ((listed.setIfInBounds i true).setIfInBounds j true))→wpAnyS P n ops ann Q (fuel+1) (listed.setIfInBounds j true) s2:=fun s2 hoks h=>by
    refine ih (listed.setIfInBounds j true) (U.erase j) s2 hU' (fun x hx hxi=>?_) (fun x hxs hx hxi=>?_) (fun b hb=>?_) (fun x ox hx hxi hxu hxB=>?_) (fun hF x x' ox ox' h1 h2 h3 h4 h5 h6 h7 h8 h9=>hAA hF x x' ox ox' h1 h2 h3 h4 h5 (hset x h6).2 (hset x' h7).2 h8 h9) (ready_mono hir (Ne.symm hji)) ?_
    ·grind[mem_ready]
    ·grind
    ·rw[getD_set_ne true (fun(e:j=b)=>hjB (by grind))];grind
    all_goals grind[opN,Array.setIfInBounds_comm]
   unfold opN
   simp only[hoj]
   by_cases hF:isF oi.op=true
   ·have hA:isA oj.op=true∧oj.guard=none:=by
     obtain⟨_,hV | h | h | h⟩:=hcm
     ·exfalso
      have hV1:=hV.1
      revert hF hV1
      cases oi.op <;> simp[isF,isV]
      grind
     ·grind
     ·grind
     ·rw[isN_F h.1.1]at hF;grind
    refine guardN_mono (fun s2 h3=>go s2 (fun j' oj' hj' hji' hju' hjB' _=>?_) h3.1) (aOk_keep hA.1 hA.2 h2)
    have hs':=hset j' hju'
    obtain⟨hcm',hok'⟩:=hc j' oj' hj' hji' hs'.2 hjB'
    have hA':isA oj'.op=true:=by
     obtain⟨_,hV | h | h | h⟩:=hcm'
     ·exfalso
      have hV1:=hV.1
      revert hF hV1
      cases oi.op <;> simp[isF,isV]
      grind
     ·grind
     ·grind
     ·rw[isN_F h.1.1]at hF;grind
    grind
   grind[guardN_mono]
end
end Go.Av

end
section
namespace Go.Av
open Go.RowKit
def annOf (plan:List Itm) (i:Nat):Itm:=(plan.find? (·.k == i)).getD ⟨i,[],[],[],[]⟩
def planS (P:Program) (n:Nat) (ops:Array Oper) (K:S→Prop):List Itm→S→Prop
 | [],s=>K s
 | it::r,s=>aOks P (frOf ops it.fr) s∧(match ops[it.k]? with
  | some o=>qar P n ops it o s (planS P n ops K r)
  | none=>False)
def aB (n:Nat) (it:Itm) (o:Oper):Bool:=isA o.op && o.guard.isNone && (match o.dst with | some d=>decide (d<n) && !it.av.contains d | none=>false)
def nB (n:Nat) (it:Itm) (o:Oper):Bool:=isN it.rd o.op && o.guard.isNone && (match o.dst with | some d=>decide (d<n) && !it.av.contains d | none=>false) && (it.rd.drop 1).all (fun id=>!it.av.contains id)
def apB (ii ij:Itm) (oi oj:Oper):Bool:=(match oi.dst with | some d=>!(ij.rd.drop 1).contains d | none=>true) && (match oj.dst with | some d=>!(ii.rd.drop 1).contains d | none=>true) && (ii.rd.drop 1).all (fun id=>!(ij.rd.drop 1).contains id)
def cmB (n:Nat) (ops:Array Oper) (ii ij:Itm) (oi oj:Oper):Bool :=
 oi.apart ops oj && ((isV oi.op && ii.rd.all (ij.av.contains ·)) || (isF oi.op && aB n ij oj) || (isA oi.op && aB n ii oi && aB n ij oj) || (nB n ii oi && nB n ij oj && apB ii ij oi oj))
def itB (n:Nat) (ops:Array Oper) (it:Itm) (r:List Itm) (listed:Array Bool):Bool :=
 match ops[it.k]? with
 | none=>false
 | some oi =>
  (it.B.all fun b=>!listed.getD b true && (match ops[b]? with | some ob=>ob.after.any fun e=>Region.binds .any e && (e.on == it.k || it.B.contains e.on) | none=>false)) &&
  ((List.range ops.size).all fun j=>j == it.k || listed.getD j true || r.any (·.k == j)) &&
  (r.all fun jt=>it.B.contains jt.k || (match ops[jt.k]? with | some oj=>cmB n ops it jt oi oj && (!isF oi.op || it.fr.contains jt.k) | none=>false)) &&
  (!isF oi.op || r.all fun jt=>r.all fun jt'=>jt.k == jt'.k || it.B.contains jt.k || it.B.contains jt'.k || (match ops[jt.k]?,ops[jt'.k]? with | some a,some b=>a.apart ops b | _,_=>false))
def planFrom (n:Nat) (ops:Array Oper):List Itm→Array Bool→Bool
 | [],listed=>(Region.ready .any ops listed).isEmpty
 | it::r,listed=>(Region.ready .any ops listed).contains it.k && itB n ops it r listed && planFrom n ops r (listed.setIfInBounds it.k true)
def cvB (o:Oper):Bool:=match o.op with
 | .convert _ _ _=>o.dst.isSome
 | _=>true
def planB (n:Nat) (ops:Array Oper) (plan:List Itm):Bool :=
 ops.toList.all cvB && (plan.all fun it=>decide (annOf plan it.k=it)) && decide (plan.length=ops.size) && planFrom n ops plan (Array.replicate ops.size false)
section
variable {P:Program} {n:Nat} {ops:Array Oper} {s:S} {K K':S→Prop}
theorem aB_spec {it:Itm} {o:Oper} (h:aB n it o=true):isA o.op=true∧o.guard=none∧∀ d,o.dst=some d→d<n∧d ∉ it.av:=by
 grind[aB,Option.isNone_iff_eq_none]
theorem nB_spec {it:Itm} {o:Oper} (h:nB n it o=true):NN n it o:=by
 unfold nB at h
 simp only[Bool.and_eq_true,Option.isNone_iff_eq_none]at h
 refine⟨h.1.1.1,h.1.1.2,fun d hd=>?_,fun id hid=>?_⟩
 all_goals grind
theorem apB_spec {ii ij:Itm} {oi oj:Oper} (h:apB ii ij oi oj=true):(∀ d,oi.dst=some d→d ∉ ij.rd.drop 1)∧(∀ d,oj.dst=some d→d ∉ ii.rd.drop 1)∧∀ id∈ii.rd.drop 1,id ∉ ij.rd.drop 1:=by
 grind[apB]
theorem cmB_spec {ii ij:Itm} {oi oj:Oper} (h:cmB n ops ii ij oi oj=true):Cm n ops ii ij oi oj:=by
 unfold cmB at h
 simp only[Bool.and_eq_true,Bool.or_eq_true]at h
 refine⟨h.1,?_⟩
 rcases h.2 with((⟨h1,h2⟩ | ⟨h1,h2⟩) | ⟨⟨h1,h2⟩,h3⟩) | ⟨⟨h1,h2⟩,h3⟩
 all_goals grind[aB_spec,nB_spec,apB_spec]
theorem planS_any {ann:Nat→Itm} {Q:S→Prop}:∀ (plan:List Itm) (listed:Array Bool) (s:S),(∀ it∈plan,ann it.k=it)→planFrom n ops plan listed=true→planS P n ops Q plan s→wpAnyS P n ops ann Q plan.length listed s
 | [],listed,s,_,hB,h=>⟨by grind[planFrom],h⟩
 | it::r,listed,s,hann,hB,h=>by
  simp only[planFrom,Bool.and_eq_true]at hB
  obtain⟨⟨hr,hit⟩,hrest⟩:=hB
  obtain⟨hfr,hg⟩:=h
  cases hi:ops[it.k]? with
  | none=>grind
  | some oi =>
   simp only[hi]at hg
   unfold itB at hit
   simp only[hi,Bool.and_eq_true]at hit
   obtain⟨⟨⟨hb,hu⟩,hc⟩,hf⟩:=hit
   have hrm:it.k∈Region.ready .any ops listed:=by grind
   have hin:∀ j,j<ops.size→listed.getD j true=false→j≠it.k→∃ jt∈r,jt.k=j:=fun j hj hl hne=>by
    grind
   refine wpAnyS_first (oi:=oi) hi it.B (fun b hbm ob hob=>?_) r.length listed (r.map (·.k)) s (by simp) (fun j hj hne=>?_) (fun j hj hl hne=>?_) (fun b hbm=>?_) (fun j oj hoj hne hl hjB=>?_) (fun hF j j' oj oj' hoj hoj' hjj hne hne' hl hl' hjB hjB'=>?_) hrm ?_
   ·grind
   ·grind[mem_ready]
   ·grind
   ·grind
   ·obtain⟨jt,h1,rfl⟩:=hin j (Array.getElem?_eq_some_iff.1 hoj).1 hl hne
    have:=List.all_eq_true.1 hc jt h1
    simp only[Bool.or_eq_true,List.contains_eq_mem,decide_eq_true_eq,hjB,false_or,hoj,Bool.and_eq_true,Bool.not_eq_true']at this
    rw[hann it (by simp),hann jt (List.mem_cons_of_mem _ h1)]
    refine⟨cmB_spec this.1,fun hF=>?_⟩
    rcases this.2 with h2 | h2
    ·grind
    ·exact aOks_spec hfr oj (List.mem_filterMap.2 ⟨jt.k,h2,hoj⟩)
   ·grind
   ·unfold opN
    simp only[hi]
    rw[hann it (by simp)]
    exact guardN_mono (fun s1 h1=>planS_any r _ s1 (fun x hx=>hann x (List.mem_cons_of_mem _ hx)) hrest h1) hg
theorem stepN_stepS {it:Itm} {o:Oper} (hcv:cvB o=true) (h:stepN P n ops it o s K):stepS P n o s K:=by
 unfold stepN at h
 unfold stepS
 split at h
 ·rename_i hv
  split at h
  ·rename_i p v he
   have he2:evVal P s.t s.h o=some (p,v):=evVal_more (fun id x hx=>by
    grind[rstH]) he
   grind[isV,opS,putA,valS,cvB,outS]
  grind
 grind[callF_mono,outS_mono]
theorem guardN_guardS {it:Itm} {o:Oper} (hcv:cvB o=true) (h:qar P n ops it o s K):guardS P n ops o s K:=by
 grind[qar,fires,guardS,stepN_stepS]
theorem wpAnyS_wp {ρ:Option Nat} {m:Nat} {c:Cx} (hn:c.n=n) {ann:Nat→Itm} {Q:S→Prop} {Q':Exit→Act→World→Prop} (hcv:∀ o∈ops.toList,cvB o=true) (hq:∀ s a w,(∃ Z γ,SRel c s Z γ a w)→Q s→Q' .normal a w) :
  ∀ (fuel:Nat) (listed:Array Bool) (s:S) (a:Act) (w:World),(∃ Z γ,SRel c s Z γ a w)→wpAnyS P n ops ann Q fuel listed s→wpAnyIn (fen ρ) m P .any ops Q' fuel listed a w
 | 0,listed,s,a,w,hs,h=>⟨h.1,hq s a w hs h.2⟩
 | fuel+1,listed,s,a,w,hs,h=>⟨fun h0=>hq s a w hs (h.1 h0),fun i hi=>by
   have h1:=h.2 i hi
   unfold opN at h1
   unfold wpOpIn
   cases hi':ops[i]? with
   | none =>
    simp only[hi']at h1
    exact wpAnyS_wp hn hcv hq fuel _ s a w hs h1
   | some o =>
    simp only[hi']at h1
    obtain⟨Z,γ,hs'⟩:=hs
    have:=guardS_wp (ρ:=ρ) (m:=m) (Q:=Q') hn hs' (guardN_guardS (hcv o (Array.mem_toList_iff.2 (Array.mem_of_getElem? hi'))) h1) (fun s' a' w' hs'' hk=>wpAnyS_wp (ρ:=ρ) (m:=m) hn hcv hq fuel _ s' a' w' hs'' hk)
    simp only
    split at this
    ·grind
    ·rename_i hw;rw[if_neg hw];exact⟨fun _ _=>trivial,this⟩⟩
theorem vc_draw {E:Env} {id:Nat} {plan:List Itm} {Q:Exit→S→Prop} (hm:P.follows .mixedOrders=true) (hp:planB E.n ops plan=true) (h:planS P E.n ops (Q .normal) plan s):VC P E (.region id ops true) s Q :=
 fun ρ m cx Z γ a w hr hn hi hs=>by
  unfold planB at hp
  simp only[Bool.and_eq_true,decide_eq_true_eq]at hp
  obtain⟨⟨⟨hcv,hann⟩,hlen⟩,hfrom⟩:=hp
  refine wpIn_region_any hm ?_
  rw[← hlen]
  refine wpAnyS_wp (ann:=annOf plan) (Q:=Q .normal) hn (fun o ho=>List.all_eq_true.1 hcv o ho) (fun s' a' w' ⟨Z',γ',hs'⟩ hq=>⟨s',Z',γ',hs',hq⟩) plan.length _ s a _ ⟨Z,γ,hs.drew⟩ ?_
  grind[planS_any]
end
end Go.Av

end
section
namespace Go.Av
open Go.RowKit
structure AOper where
 g:Option (Nat×Bool)
 d:Option Nat
 op:Op
structure DOper where
 o:AOper
 rd:List Nat
 av:List Nat
 fr:List (Nat×Op)
inductive ACode where
 | skip
 | reg (l:List AOper)
 | draw (l:List DOper)
 | seq (a b:ACode)
 | cond (c:Operand) (a b:ACode)
 | block (id:Nat) (a:ACode)
 | loop (a:ACode)
 | exit (id:Nat)
 | ret
 | rng (g:Operand) (p q:Nat) (a:ACode)
def dstB (n:Nat):Option Nat→Bool
 | some d=>decide (d<n)
 | none=>true
def compO (n:Nat) (ops:Array Oper) (o:Oper):Option AOper :=
 if dstB n o.dst then
  match o.guard with
  | none=>some ⟨none,o.dst,o.op⟩
  | some (g,want)=>match (ops[g]?).bind (·.dst)with
   | some d=>some ⟨some (d,want),o.dst,o.op⟩
   | none=>none
 else none
def compL (n:Nat) (ops:Array Oper):List Oper→Option (List AOper)
 | []=>some []
 | o::r=>match compO n ops o,compL n ops r with
  | some a,some l=>some (a::l)
  | _,_=>none
def compF (ops:Array Oper):List Nat→Option (List (Nat×Op))
 | []=>some []
 | i::r=>match ops[i]?,compF ops r with
  | some o,some l=>match o.dst with
   | some d=>some ((d,o.op)::l)
   | none=>none
  | _,_=>none
def compD (n:Nat) (ops:Array Oper):List Itm→Option (List DOper)
 | []=>some []
 | it::r=>match ops[it.k]?,compD n ops r,compF ops it.fr with
  | some o,some l,some fr=>match compO n ops o with
   | some a=>some (⟨a,it.rd,it.av,fr⟩::l)
   | none=>none
  | _,_,_=>none
def planAt:List (Nat×List Itm)→Nat→List Itm
 | [],_=>[]
 | (i,p)::r,j=>if j=i then p else planAt r j
def asgOf (ps:Array Tmp) (asg:Code):Option (Nat×Nat):=match ps.toList,asg with
 | [p],.region _ ops false=>match ops.toList with
  | [o]=>match o.op,o.dst,o.guard with
   | .assign (.tmp p'),some q,none=>if p'=p then some (p,q) else none
   | _,_,_=>none
  | _=>none
 | _,_=>none
def rngP (n:Nat) (g:Operand) (ps:Array Tmp) (asg b:Code) (x:Option ACode):Option (Operand×Nat×Nat×ACode):=match asgOf ps asg,x with
 | some (p,q),some x=>if p<n∧q<n∧p≠q∧noRng b=true then some (g,p,q,x) else none
 | _,_=>none
def comp (n:Nat) (pl:List (Nat×List Itm)):Code→Option ACode
 | .skip=>some .skip
 | .label _=>some .skip
 | .region _ ops false=>(compL n ops ops.toList).map .reg
 | .region id ops true=>if planB n ops (planAt pl id) then (compD n ops (planAt pl id)).map .draw else none
 | .seq a b=>match comp n pl a,comp n pl b with
  | some x,some y=>some (.seq x y)
  | _,_=>none
 | .cond c a b=>match comp n pl a,comp n pl b with
  | some x,some y=>some (.cond c x y)
  | _,_=>none
 | .block id a=>(comp n pl a).map (.block id)
 | .loop a=>(comp n pl a).map .loop
 | .exit id=>some (.exit id)
 | .ret=>some .ret
 | .rangeFunc g ps asg b=>(rngP n g ps asg b (comp n pl b)).map fun x=>.rng x.1 x.2.1 x.2.2.1 x.2.2.2
 | _=>none
def outA (r:Option (Prop×S)) (K:S→Prop):Prop :=
 match r with
 | some (p,s')=>p∧K s'
 | none=>False
def outV (r:Option (Prop×AV)) (d:Option Nat) (s:S) (K:S→Prop):Prop :=
 match r with
 | some (p,v)=>p∧K ⟨putA s.t d v,s.h,s.u⟩
 | none=>False
def callA (P:Program) (f:Nat) (args:List AV) (dst:Option Nat) (s:S) (K:S→Prop):Prop :=
 enters P f=true∧∃ hv pl argsC L R,CallIn s hv pl args argsC L∧ACall P f argsC L R ∧
  ∀ r L',R r L'→∃ φ,CallOut s hv pl φ r L'∧K (qae s pl φ dst r L')
def callFA (P:Program) (v:AV) (args:List AV) (dst:Option Nat) (s:S) (K:S→Prop):Prop :=
 match v with
 | .fn f cap=>callA P f (args++cap) dst s K
 | _=>False
def stepA (P:Program) (op:Op) (d:Option Nat) (s:S) (K:S→Prop):Prop :=
 match op with
 | .call ⟨.value x,args,_⟩=>callFA P (opd s.t x) (args.toList.map (opd s.t)) d s K
 | _=>outA (opS P ⟨d,op,0,"",#[],none⟩ s) K
def guardA (P:Program) (o:AOper) (s:S) (K:S→Prop):Prop :=
 match o.g with
 | none=>stepA P o.op o.d s K
 | some (g,want)=>match s.t g with
  | .bool b=>(b=want→stepA P o.op o.d s K)∧(b≠want→K ⟨putA s.t o.d (.tup []),s.h,s.u⟩)
  | .tup _=>K ⟨putA s.t o.d (.tup []),s.h,s.u⟩
  | _=>False
def regA (P:Program) (K:S→Prop):List AOper→S→Prop
 | [],s=>K s
 | o::r,s=>guardA P o s (regA P K r)
def stepD (P:Program) (rd av:List Nat) (op:Op) (d:Option Nat) (s:S) (K:S→Prop):Prop :=
 if isV op=true then outV (evVal P s.t (rstH rd s.h) ⟨d,op,0,"",#[],none⟩) d s K
 else match isG op with
  | true=>(rdG rd=true→gOk rd op s.t)∧stepA P op d s (fun s'=>avOk av s.h s'.h∧K s')
  | false=>stepA P op d s (fun s'=>avOk av s.h s'.h∧K s')
def guardD (P:Program) (o:DOper) (s:S) (K:S→Prop):Prop :=
 match o.o.g with
 | none=>stepD P o.rd o.av o.o.op o.o.d s K
 | some (g,want)=>match s.t g with
  | .bool b=>(b=want→stepD P o.rd o.av o.o.op o.o.d s K)∧(b≠want→K ⟨putA s.t o.o.d (.tup []),s.h,s.u⟩)
  | .tup _=>K ⟨putA s.t o.o.d (.tup []),s.h,s.u⟩
  | _=>False
def frA (P:Program):List (Nat×Op)→S→Prop
 | [],_=>True
 | (d,op)::r,s=>(outA (opS P ⟨some d,op,0,"",#[],none⟩ s) (fun _=>True)∧s.h d=none)∧frA P r s
def drawA (P:Program) (K:S→Prop):List DOper→S→Prop
 | [],s=>K s
 | o::r,s=>frA P o.fr s∧guardD P o s (drawA P K r)
section
variable {P:Program} {n:Nat} {E:Env} {s:S} {K:S→Prop}
theorem opS_oper (o:Oper):opS P o s=opS P ⟨o.dst,o.op,0,"",#[],none⟩ s:=by
 rfl
theorem stepA_step {o:Oper} (hd:dstB n o.dst=true) (h:stepA P o.op o.dst s K):stepS P n o s K:=by
 unfold stepA at h
 unfold stepS
 have hdd:∀ k,o.dst=some k→k<n:=fun k hk=>by grind[dstB]
 split at h
 ·rename_i x args tys ho
  simp only[ho]
  unfold callFA at h
  split at h
  ·rename_i f cap hx
   simp only[hx]
   exact⟨h.1,hdd,h.2⟩
  grind
 ·rename_i hne
  have h2:outS n o.dst (opS P o s) K:=by
   unfold outA at h
   unfold outS
   rw[opS_oper]
   split at h
   ·rename_i p s' he
    simp only[he]
    refine⟨h.1,?_,h.2⟩
    cases hx:o.dst with
    | none=>trivial
    | some k=>exact hdd k hx
   ·cases h
  grind
theorem guardA_guard {ops:Array Oper} {o:Oper} {a:AOper} (hc:compO n ops o=some a) (h:guardA P a s K):guardS P n ops o s K:=by
 grind[compO,dstB,guardS,stepA_step,guardA]
theorem stepS_mono {o:Oper} {K':S→Prop} (hk:∀ s,K s→K' s) (h:stepS P n o s K):stepS P n o s K':=by
 unfold stepS at *
 split at h
 ·unfold callF at *
  split at h
  ·obtain⟨h1,h2,hv,pl,argsC,L,R,h3,h4,h5⟩:=h
   refine⟨h1,h2,hv,pl,argsC,L,R,h3,h4,fun r L' hr=>?_⟩
   grind
  omega
 ·unfold outS at *
  grind
theorem guardS_mono {ops:Array Oper} {o:Oper} {K':S→Prop} (hk:∀ s,K s→K' s) (h:guardS P n ops o s K):guardS P n ops o s K':=by
 unfold guardS at *
 split at h
 all_goals grind[stepS_mono]
theorem regA_reg {ops:Array Oper}:∀ {l:List Oper} {al:List AOper} {s:S},compL n ops l=some al→regA P K al s→regS P n ops K l s
 | [],al,s,hc,h=>by simp only[compL,Option.some.injEq]at hc;subst hc;exact h
 | o::l,al,s,hc,h=>by
  simp only[compL]at hc
  split at hc
  ·rename_i a al' h1 h2
   injection hc with hc;subst hc
   exact guardS_mono (fun s' h'=>regA_reg h2 h') (guardA_guard h1 h)
  grind
theorem evVal_oper (o:Oper) {t:Tm} {h:Hp}:evVal P t h o=evVal P t h ⟨o.dst,o.op,0,"",#[],none⟩:=by
 rfl
theorem stepD_step {ops:Array Oper} {it:Itm} {o:Oper} (hd:dstB n o.dst=true) (h:stepD P it.rd it.av o.op o.dst s K):stepN P n ops it o s K:=by
 have hdd:match o.dst with | some d=>d<n | none=>True:=by
  grind[dstB]
 unfold stepD at h
 unfold stepN
 split at h
 ·grind[evVal_oper,outV]
 ·rename_i hv
  rw[if_neg hv]
  have h2:(gMay it.rd o.op=true→gOk it.rd o.op s.t)∧stepA P o.op o.dst s (fun s'=>avOk it.av s.h s'.h∧K s'):=by
   grind[gMay]
  have h3:=stepA_step (n:=n) hd h2.2
  grind[stepS]
theorem guardD_guard {ops:Array Oper} {it:Itm} {o:Oper} {a:AOper} {fr:List (Nat×Op)} (hc:compO n ops o=some a) (h:guardD P ⟨a,it.rd,it.av,fr⟩ s K):qar P n ops it o s K:=by
 grind[compO,dstB,qar,fires,stepD_step,guardD]
theorem frA_ok {ops:Array Oper}:∀ {l:List Nat} {fr:List (Nat×Op)},compF ops l=some fr→frA P fr s→aOks P (frOf ops l) s
 | [],fr,hc,h=>trivial
 | i::r,fr,hc,h=>by
  simp only[compF]at hc
  split at hc
  ·rename_i o l h1 h2
   split at hc
   ·rename_i d hd
    injection hc with hc;subst hc
    have hf:frOf ops (i::r)=o::frOf ops r:=by grind[frOf]
    rw[hf]
    refine⟨⟨?_,by rw[hd];exact h.1.2⟩,frA_ok h2 h.2⟩
    have h3:=h.1.1
    grind[opS_oper,outA]
   grind
  grind
theorem drawA_plan {ops:Array Oper}:∀ {plan:List Itm} {l:List DOper} {s:S},compD n ops plan=some l→drawA P K l s→planS P n ops K plan s
 | [],l,s,hc,h=>by simp only[compD,Option.some.injEq]at hc;subst hc;exact h
 | it::r,l,s,hc,h=>by
  simp only[compD]at hc
  split at hc
  ·rename_i o l' fr h1 h2 h3
   split at hc
   ·rename_i a h4
    injection hc with hc;subst hc
    refine⟨frA_ok h3 h.1,?_⟩
    rw[h1]
    exact guardN_mono (fun s' h'=>drawA_plan h2 h') (guardD_guard h4 h.2)
   grind
  grind
def VA (P:Program) (E:Env) (a:ACode) (s:S) (Q:Exit→S→Prop):Prop:=∀ pl c,comp E.n pl c=some a→VC P E c s Q
variable {Q:Exit→S→Prop}
theorem comp_label_skip {pl:List (Nat×List Itm)} {c:Code} (h:comp n pl c=some .skip):c=.skip∨∃ l,c=.label l:=by
 cases c with
 | skip=>simp
 | label l=>simp
 | region id ops b=>cases b <;> simp[comp,Option.map]at h <;> (try split at h) <;> (try simp at h) <;> (try split at h) <;> (try simp at h)
 | seq a b=>grind[comp]
 | cond c a b=>grind[comp]
 | block id a=>simp_all[comp]
 | loop a=>simp_all[comp]
 | _=>simp[comp]at h
theorem va_skip (h:Q .normal s):VA P E .skip s Q:=fun pl c hc=>by
 grind[comp_label_skip,vc_skip,vc_label]
theorem va_reg {l:List AOper} (h:regA P (Q .normal) l s):VA P E (.reg l) s Q:=fun pl c hc=>by
 cases c with
 | region id ops b =>
  cases b with
  | false =>
   simp only[comp,Option.map_eq_some_iff,ACode.reg.injEq]at hc
   obtain⟨l',h1,rfl⟩:=hc
   have:=vc_region (P:=P) (E:=E) (id:=id) (l:=ops.toList) (Q:=Q) (s:=s) (regA_reg (by omega) h)
   omega
  | true=>simp[comp,Option.map]at hc;grind
 | seq a b=>grind[comp]
 | cond c a b=>grind[comp]
 | block id a=>simp_all[comp]
 | loop a=>simp_all[comp]
 | _=>simp[comp]at hc
theorem va_draw {l:List DOper} (hm:P.follows .mixedOrders=true) (h:drawA P (Q .normal) l s):VA P E (.draw l) s Q:=fun pl c hc=>by
 cases c with
 | region id ops b =>
  cases b<;>grind[comp,Option.map_eq_some_iff,vc_draw,drawA_plan]
 | seq a b=>grind[comp]
 | cond c a b=>grind[comp]
 | block id a=>simp_all[comp]
 | loop a=>simp_all[comp]
 | _=>simp[comp]at hc
theorem va_seq {x y:ACode} (h:VA P E x s (thenQ (fun s'=>VA P E y s' Q) Q)):VA P E (.seq x y) s Q:=fun pl c hc=>by
 cases c with
 | seq a b =>
  simp only[comp]at hc
  split at hc
  ·rename_i x' y' h1 h2
   injection hc with hc;injection hc with e1 e2;subst e1;subst e2
   refine vc_seq ((h pl a h1).mono fun e s' h'=>?_)
   cases e with
   | normal=>exact h' pl b h2
   | _=>exact h'
  grind
 | region id ops b=>cases b <;> simp[comp,Option.map]at hc <;> (try split at hc) <;> (try simp at hc) <;> (try split at hc) <;> (try simp at hc)
 | cond c a b=>grind[comp]
 | block id a=>simp_all[comp]
 | loop a=>simp_all[comp]
 | _=>simp[comp]at hc
theorem va_cond {c:Operand} {x y:ACode} {b:Bool} (hb:opd s.t c=.bool b) (ht:b=true→VA P E x s Q) (hf:b=false→VA P E y s Q):VA P E (.cond c x y) s Q:=fun pl k hc=>by
 cases k with
 | cond c' a b =>
  simp only[comp]at hc
  split at hc
  ·rename_i x' y' h1 h2
   injection hc with hc;injection hc with e0 e1 e2;subst e0;subst e1;subst e2
   exact vc_cond hb (fun e=>ht e pl a h1) (fun e=>hf e pl b h2)
  grind
 | region id ops b=>cases b <;> simp[comp,Option.map]at hc <;> (try split at hc) <;> (try simp at hc) <;> (try split at hc) <;> (try simp at hc)
 | seq a b=>grind[comp]
 | block id a=>simp_all[comp]
 | loop a=>simp_all[comp]
 | _=>simp[comp]at hc
theorem va_cond_any {c:Operand} {x y:ACode} (hb:opd s.t c=.anyb) (ht:VA P E x s Q) (hf:VA P E y s Q):VA P E (.cond c x y) s Q:=fun pl k hc=>by
 cases k with
 | cond c' a b =>
  simp only[comp]at hc
  split at hc
  ·rename_i x' y' h1 h2
   injection hc with hc;injection hc with e0 e1 e2;subst e0;subst e1;subst e2
   exact vc_cond_any hb (ht pl a h1) (hf pl b h2)
  grind
 | region id ops b=>cases b <;> simp[comp,Option.map]at hc <;> (try split at hc) <;> (try simp at hc) <;> (try split at hc) <;> (try simp at hc)
 | seq a b=>grind[comp]
 | block id a=>simp_all[comp]
 | loop a=>simp_all[comp]
 | _=>simp[comp]at hc
theorem va_block {id:Nat} {x:ACode} (h:VA P E x s (qbw id Q)):VA P E (.block id x) s Q:=fun pl c hc=>by
 cases c with
 | block id' a =>
  simp only[comp,Option.map_eq_some_iff,ACode.block.injEq]at hc
  obtain⟨l',h1,rfl,rfl⟩:=hc
  exact vc_block (h pl a h1)
 | region id ops b=>cases b <;> simp[comp,Option.map]at hc <;> (try split at hc) <;> (try simp at hc) <;> (try split at hc) <;> (try simp at hc)
 | seq a b=>grind[comp]
 | cond c a b=>grind[comp]
 | loop a=>simp_all[comp]
 | _=>simp[comp]at hc
theorem va_loop {x:ACode} (I:Nat→S→Prop) (k:Nat) (h0:I k s)
  (round:∀ k s,I k s→VA P E x s (thenQ (fun s'=>∃ k',k'<k∧I k' s') Q)):VA P E (.loop x) s Q:=fun pl c hc=>by
 cases c with
 | loop a =>
  simp only[comp,Option.map_eq_some_iff,ACode.loop.injEq]at hc
  obtain⟨l',h1,rfl⟩:=hc
  exact vc_loop I k h0 fun k s hI=>round k s hI pl a h1
 | region id ops b=>cases b <;> simp[comp,Option.map]at hc <;> (try split at hc) <;> (try simp at hc) <;> (try split at hc) <;> (try simp at hc)
 | seq a b=>grind[comp]
 | cond c a b=>grind[comp]
 | block id a=>simp_all[comp]
 | _=>simp[comp]at hc
theorem va_exit {id:Nat} (h:Q (.exit id) s):VA P E (.exit id) s Q:=fun pl c hc=>by
 cases c with
 | exit id' =>
  grind[comp,vc_exit]
 | region id ops b=>cases b <;> simp[comp,Option.map]at hc <;> (try split at hc) <;> (try simp at hc) <;> (try split at hc) <;> (try simp at hc)
 | seq a b=>grind[comp]
 | cond c a b=>grind[comp]
 | block id a=>simp_all[comp]
 | loop a=>simp_all[comp]
 | _=>simp[comp]at hc
theorem va_ret (h:Q .ret s):VA P E .ret s Q:=fun pl c hc=>by
 cases c with
 | ret=>grind[vc_ret]
 | region id ops b=>cases b <;> simp[comp,Option.map]at hc <;> (try split at hc) <;> (try simp at hc) <;> (try split at hc) <;> (try simp at hc)
 | seq a b=>grind[comp]
 | cond c a b=>grind[comp]
 | block id a=>simp_all[comp]
 | loop a=>simp_all[comp]
 | _=>simp[comp]at hc
theorem VA.mono {c:ACode} {Q':Exit→S→Prop} (h:VA P E c s Q) (hq:∀ e s,Q e s→Q' e s):VA P E c s Q':=fun pl k hk=>(h pl k hk).mono hq
theorem va_pre {c:ACode} {s':S} (hw:SW E s s') (h:VA P E c s' Q):VA P E c s Q:=fun pl k hk=>vc_pre hw (h pl k hk)
theorem va_post {c:ACode} (h:VA P E c s fun e s'=>∃ s'',SW E s' s''∧Q e s''):VA P E c s Q:=fun pl k hk=>vc_post (h pl k hk)
theorem acallA {f:Nat} (hbd:hasBody P f=true) {fn:Func} {ac:ACode} {args:List AV} {L:List (Nat×Ob)} {R:AV→List (Nat×Ob)→Prop} (n:Nat) (pl:List (Nat×List Itm)) (rs:List ResultVar) (hf:P.funcs[f]?=some fn) (hc:fn.body.bind (comp n pl)=some ac) (hn:fn.ntmps=n)
  (hr:fn.results.toList=rs) (ha:args.length≤n) (hL:(L.map (·.1)).Nodup)
  (h:VA P ⟨n,L.map (·.1)⟩ ac ⟨argT args,hpOf L,Us.of (L.map (·.1))⟩ (retQ P rs R)):ACall P f args L R:=by
 subst hn;subst hr
 cases hb:fn.body with
 | none=>grind
 | some b =>
  rw[hb]at hc
  exact acall hbd hf hb ha hL (h pl b hc)
end
end Go.Av

end
section
namespace Go.Av
open Go.RowKit
section
variable {P:Program} {s:S} {K:S→Prop} {d:Option Nat} {k:Nat}
@[simp] theorem regA_nil:regA P K [] s=K s:=rfl
@[simp] theorem regA_cons (o:AOper) (r:List AOper):regA P K (o::r) s=guardA P o s (regA P K r):=rfl
@[simp] theorem guardA_none (op:Op):guardA P ⟨none,d,op⟩ s K=stepA P op d s K:=rfl
def gd (P:Program) (g:Nat) (want:Bool) (op:Op) (d:Option Nat) (s:S) (K:S→Prop):AV→Prop
 | .bool b=>(b=want→stepA P op d ⟨upd s.t g (.bool want),s.h,s.u⟩ K)∧(b=(!want)→K ⟨putA (upd s.t g (.bool (!want))) d (.tup []),s.h,s.u⟩)
 | .tup _=>K ⟨putA s.t d (.tup []),s.h,s.u⟩
 | _=>False
theorem upd_self {α:Type} (f:Nat→α) (k:Nat) (v:α) (h:f k=v):upd f k v=f:=by
 grind[upd]
theorem guardA_some (g:Nat) (want:Bool) (op:Op):guardA P ⟨some (g,want),d,op⟩ s K=gd P g want op d s K (s.t g):=by
 simp only[guardA,gd]
 cases hv:s.t g <;> try rfl
 rename_i b
 cases b <;> cases want <;> simp[upd_self _ _ _ hv]
attribute [simp] guardA_some
@[simp] theorem gd_tt (g:Nat) (op:Op):gd P g true op d s K (.bool true)=stepA P op d ⟨upd s.t g (.bool true),s.h,s.u⟩ K:=by simp[gd]
@[simp] theorem gd_ff (g:Nat) (op:Op):gd P g false op d s K (.bool false)=stepA P op d ⟨upd s.t g (.bool false),s.h,s.u⟩ K:=by simp[gd]
@[simp] theorem gd_tf (g:Nat) (op:Op):gd P g true op d s K (.bool false)=K ⟨putA (upd s.t g (.bool false)) d (.tup []),s.h,s.u⟩:=by simp[gd]
@[simp] theorem gd_ft (g:Nat) (op:Op):gd P g false op d s K (.bool true)=K ⟨putA (upd s.t g (.bool true)) d (.tup []),s.h,s.u⟩:=by simp[gd]
@[simp low] theorem gd_bool (g:Nat) (want b:Bool) (op:Op):gd P g want op d s K (.bool b)=((b=want→stepA P op d ⟨upd s.t g (.bool want),s.h,s.u⟩ K)∧(b=(!want)→K ⟨putA (upd s.t g (.bool (!want))) d (.tup []),s.h,s.u⟩)):=rfl
@[simp] theorem gd_tup (g:Nat) (want:Bool) (l:List AV) (op:Op):gd P g want op d s K (.tup l)=K ⟨putA s.t d (.tup []),s.h,s.u⟩:=rfl
@[simp] theorem outA_some (p:Prop) (s':S):outA (some (p,s')) K=(p∧K s'):=rfl
@[simp] theorem outA_none:outA none K=False:=rfl
@[simp] theorem outV_some (p:Prop) (v:AV):outV (some (p,v)) d s K=(p∧K ⟨putA s.t d v,s.h,s.u⟩):=rfl
@[simp] theorem outV_none:outV none d s K=False:=rfl
@[simp] theorem opd_tmp (t:Tm) (i:Nat):opd t (.tmp i)=t i:=rfl
@[simp] theorem opd_int (t:Tm) (kk:IntKind) (n:Int):opd t (.const (.int kk n))=.int kk n:=rfl
@[simp] theorem opd_bool (t:Tm) (b:Bool):opd t (.const (.bool b))=.bool b:=rfl
@[simp] theorem opd_str (t:Tm) (a:Array UInt8):opd t (.const (.string ⟨a⟩))=.str a.toList:=rfl
@[simp] theorem opd_nilp (t:Tm):opd t (.const (.pointer none))=.nilp:=rfl
@[simp] theorem opd_nils (t:Tm):opd t (.const (.slice none 0 0))=.nils:=rfl
@[simp] theorem opd_nili (t:Tm):opd t (.const .nilIface)=.nili:=rfl
@[simp] theorem opd_agg (t:Tm) (cs:Array Value):opd t (.const (.agg cs))=.agg (cs.toList.map av1):=rfl
@[simp] theorem opd_func (t:Tm) (f:Nat):opd t (.func f)=.fn f []:=rfl
attribute [simp] av1
@[simp] theorem putA_some (t:Tm) (k:Nat) (v:AV):putA t (some k) v=upd t k v:=rfl
@[simp] theorem putA_none (t:Tm) (v:AV):putA t none v=t:=rfl
@[simp] theorem upd_app {α:Type} (f:Nat→α) (k:Nat) (v:α) (i:Nat):upd f k v i=if i=k then v else f i:=rfl
@[simp] theorem mkT_nil (i:Nat):mkT [] i=.top:=rfl
@[simp] theorem mkT_cons (j:Nat) (v:AV) (r:List (Nat×AV)) (i:Nat):mkT ((j,v)::r) i=if i=j then v else mkT r i:=rfl
@[simp] theorem hpOf_nil (i:Nat):hpOf [] i=none:=rfl
@[simp] theorem hpOf_cons (j:Nat) (o:Ob) (r:List (Nat×Ob)) (i:Nat):hpOf ((j,o)::r) i=if i=j then some o else hpOf r i:=by rfl
attribute [simp] Us.mem_cons Us.mem_app Us.mem_of
@[simp] theorem argT_app (l:List AV) (i:Nat):argT l i=l.getD i .top:=rfl
theorem qbr (op:Op):outA (valS P ⟨d,op,0,"",#[],none⟩ s) K=outV (evVal P s.t s.h ⟨d,op,0,"",#[],none⟩) d s K:=by
 unfold valS
 split<;>simp_all
@[simp] theorem stepA_move (x:Operand):stepA P (.move x) d s K=K ⟨putA s.t d (opd s.t x),s.h,s.u⟩:=by
 show outA (valS P ⟨d,.move x,0,"",#[],none⟩ s) K=_
 simp[qbr,evVal]
@[simp] theorem stepA_assign (x:Operand):stepA P (.assign x) d s K=K ⟨putA s.t d (opd s.t x),s.h,s.u⟩:=by
 show outA (valS P ⟨d,.assign x,0,"",#[],none⟩ s) K=_
 simp[qbr,evVal]
def evPick (c a b:AV):Option (Prop×AV) :=
 match c with
 | .bool c=>some (True,if c=true then a else b)
 | _=>none
@[simp] theorem evPick_bool (c:Bool) (a b:AV):evPick (.bool c) a b=some (True,if c=true then a else b):=rfl
@[simp] theorem stepA_pick (c a b:Operand):stepA P (.pick c a b) d s K=outV (evPick (opd s.t c) (opd s.t a) (opd s.t b)) d s K:=by
 show outA (valS P ⟨d,.pick c a b,0,"",#[],none⟩ s) K=_
 rw[qbr];rfl
@[simp] theorem stepA_build (ty:Nat) (parts:Array (Nat×Operand)):stepA P (.build ty parts) d s K=outV (evBuild P ty (parts.toList.map fun x=>(x.1,opd s.t x.2))) d s K:=by
 show outA (valS P ⟨d,.build ty parts,0,"",#[],none⟩ s) K=_
 rw[qbr];rfl
@[simp] theorem stepA_load (ty:Nat) (a:Operand):stepA P (.load ty a) d s K=outV (evLoad P s.h ty (opd s.t a)) d s K:=by
 show outA (valS P ⟨d,.load ty a,0,"",#[],none⟩ s) K=_
 rw[qbr];rfl
def evNC (x:AV):Option (Prop×AV) :=
 match x with
  | .ptr id e k=>some (True,.ptr id e k)
  | .elm cs=>some (True,.elm cs)
  | .fn f c=>some (True,.fn f c)
  | _=>none
@[simp] theorem stepA_nilCheck (x:Operand):stepA P (.nilCheck x) d s K=outV (evNC (opd s.t x)) d s K:=by
 show outA (valS P ⟨d,.nilCheck x,0,"",#[],none⟩ s) K=_
 rw[qbr];rfl
@[simp] theorem stepA_binOp (op:BinOp) (xt:Nat) (x y:Operand) (yt:Nat):stepA P (.binOp op xt x y yt) d s K=outV (evBin P op xt x y (opd s.t x) (opd s.t y)) d s K:=by
 show outA (valS P ⟨d,.binOp op xt x y yt,0,"",#[],none⟩ s) K=_
 rw[qbr];rfl
@[simp] theorem stepA_unOp (op:UnOp) (xt:Nat) (x:Operand):stepA P (.unOp op xt x) d s K=outV (evUn op (opd s.t x)) d s K:=by
 show outA (valS P ⟨d,.unOp op xt x,0,"",#[],none⟩ s) K=_
 rw[qbr];rfl
def convA (r:Option (Prop×AV)) (b:Option (Prop×S)) (k:Nat) (s:S) (K:S→Prop):Prop :=
 match r with
 | some (p,v)=>p∧K ⟨upd s.t k v,s.h,s.u⟩
 | none=>outA b K
@[simp] theorem convA_some (p:Prop) (v:AV) (b:Option (Prop×S)):convA (some (p,v)) b k s K=(p∧K ⟨upd s.t k v,s.h,s.u⟩):=rfl
@[simp] theorem convA_none (b:Option (Prop×S)):convA none b k s K=outA b K:=rfl
@[simp] theorem stepA_convert (sr ds:Nat) (x:Operand):stepA P (.convert sr ds x) (some k) s K=convA (evConv P s.h sr ds (opd s.t x)) (evBytes P s k sr ds (opd s.t x)) k s K:=by
 show outA (opS P ⟨some k,.convert sr ds x,0,"",#[],none⟩ s) K=_
 simp only[opS,evVal]
 split<;>simp_all
@[simp] theorem stepA_makeFunc (f:Nat) (cap:Array Operand):stepA P (.makeFunc (.func f) #[] cap) d s K=K ⟨putA s.t d (.fn f (cap.toList.map (opd s.t))),s.h,s.u⟩:=by
 show outA (valS P ⟨d,.makeFunc (.func f) #[] cap,0,"",#[],none⟩ s) K=_
 simp[qbr,evVal]
@[simp] theorem stepA_slice (ty:Nat) (x:Operand) (lo hi:Option Operand):stepA P (.slice ty x lo hi none) d s K=outV (evSlice P s.h ty (opd s.t x) (lo.map (opd s.t)) (hi.map (opd s.t))) d s K:=by
 show outA (valS P ⟨d,.slice ty x lo hi none,0,"",#[],none⟩ s) K=_
 rw[qbr];rfl
@[simp] theorem stepA_fieldAddr (ty:Nat) (x:Operand) (f:Nat):stepA P (.fieldAddr ty x f) d s K=outV (evFieldAddr P ty f (opd s.t x)) d s K:=by
 show outA (valS P ⟨d,.fieldAddr ty x f,0,"",#[],none⟩ s) K=_
 rw[qbr];rfl
@[simp] theorem stepA_indexAddr (ty:Nat) (x i:Operand):stepA P (.indexAddr ty x i) d s K=outV (evIndexAddr P s.h ty (opd s.t x) (opd s.t i)) d s K:=by
 show outA (valS P ⟨d,.indexAddr ty x i,0,"",#[],none⟩ s) K=_
 rw[qbr];rfl
@[simp] theorem stepA_index (ty:Nat) (x i:Operand):stepA P (.index ty x i) d s K=outV (evIndex P ty (opd s.t x) (opd s.t i)) d s K:=by
 show outA (valS P ⟨d,.index ty x i,0,"",#[],none⟩ s) K=_
 rw[qbr];rfl
def evExt (x:AV) (ix:Nat):Option (Prop×AV) :=
 match x with
  | .tup vs=>match vs[ix]? with
   | some v=>some (True,v)
   | none=>none
  | _=>none
@[simp] theorem stepA_extract (x:Operand) (ix:Nat):stepA P (.extract x ix) d s K=outV (evExt (opd s.t x) ix) d s K:=by
 show outA (valS P ⟨d,.extract x ix,0,"",#[],none⟩ s) K=_
 rw[qbr];rfl
@[simp] theorem stepA_len (x:Operand) (ty:Nat):stepA P (.call ⟨.builtin .len,#[x],#[ty]⟩) d s K=outV (evLen P ty (opd s.t x)) d s K:=by
 show outA (valS P ⟨d,.call ⟨.builtin .len,#[x],#[ty]⟩,0,"",#[],none⟩ s) K=_
 rw[qbr];rfl
@[simp] theorem stepA_alloc (ty:Nat):stepA P (.alloc ty) (some k) s K=outA (evAlloc P s k ty) K:=rfl
@[simp] theorem stepA_box (ty:Nat) (x:Operand):stepA P (.box ty x) (some k) s K=outA (evBox P s k ty (opd s.t x)) K:=rfl
@[simp] theorem stepA_buildSlice (ty len:Nat) (parts:Array (Nat×Operand)):stepA P (.buildSlice ty len parts) (some k) s K=outA (qbo P s k ty len (parts.toList.map fun x=>(x.1,opd s.t x.2))) K:=rfl
@[simp] theorem stepA_makeSlice (ty:Nat) (x y:Operand):stepA P (.makeSlice ty x y) (some k) s K=outA (evMake P s k ty (opd s.t x) (opd s.t y)) K:=rfl
@[simp] theorem stepA_store (ty:Nat) (x y:Operand):stepA P (.store ty x y) none s K=outA (evStore P s ty (opd s.t x) (opd s.t y)) K:=rfl
@[simp] theorem stepA_append (ty xt:Nat) (x y:Operand):stepA P (.call ⟨.builtin .append,#[x,y],#[ty,xt]⟩) (some k) s K=outA (evApp P s k ty xt (opd s.t x) (opd s.t y)) K:=rfl
@[simp] theorem evApp_nils (ty xt:Nat) (y:AV):evApp P s k ty xt .nils y=evAppend P s k ty xt .nils y:=rfl
@[simp] theorem evApp_sl (ty xt id e len:Nat) (y:AV):evApp P s k ty xt (.sl id e len) y=evAppend P s k ty xt (.sl id e len) y:=rfl
@[simp] theorem evApp_slc_int (ty xt id e len cap:Nat) (kk:IntKind) (n:Int):evApp P s k ty xt (.slc id e len cap) (.int kk n)=if 0≤n then evAppendZ P s k ty xt id e len cap n.toNat else none:=rfl
@[simp] theorem evApp_slc_sl (ty xt id e len cap i2 e2 l2:Nat):evApp P s k ty xt (.slc id e len cap) (.sl i2 e2 l2)=evAppendC P s k ty xt id e len cap (.sl i2 e2 l2):=rfl
@[simp] theorem evApp_slc_slc (ty xt id e len cap i2 e2 l2 c2:Nat):evApp P s k ty xt (.slc id e len cap) (.slc i2 e2 l2 c2)=evAppendC P s k ty xt id e len cap (.slc i2 e2 l2 c2):=rfl
@[simp] theorem evApp_slc_lst (ty xt id e len cap sz:Nat) (els:List (List AV)):evApp P s k ty xt (.slc id e len cap) (.lst sz els)=evAppendC P s k ty xt id e len cap (.lst sz els):=rfl
@[simp] theorem evApp_lst (ty xt sz:Nat) (els:List (List AV)) (y:AV):evApp P s k ty xt (.lst sz els) y=evAppend P s k ty xt (.lst sz els) y:=rfl
@[simp] theorem stepA_copy (ty xt:Nat) (x y:Operand):stepA P (.call ⟨.builtin .copy,#[x,y],#[ty,xt]⟩) d s K=outA (evCopy P s d ty (opd s.t x) (opd s.t y)) K:=rfl
@[simp] theorem stepA_clear (ty:Nat) (x:Operand):stepA P (.call ⟨.builtin .clear,#[x],#[ty]⟩) none s K=outA (evClear P s ty (opd s.t x)) K:=rfl
@[simp] theorem stepA_call (x:Operand) (args:Array Operand) (tys:Array Nat):stepA P (.call ⟨.value x,args,tys⟩) d s K=callFA P (opd s.t x) (args.toList.map (opd s.t)) d s K:=rfl
@[simp] theorem callFA_fn (f:Nat) (cap args:List AV):callFA P (.fn f cap) args d s K=callA P f (args++cap) d s K:=rfl
attribute [simp] evCopy evClear evCap evSlice3 evAppendC evAppendZ slOf nilCmp evLoad evFieldAddr evIndexAddr evSlice evIndex evField evLen evInt evStr evBin evUn evNC evExt evConv evBytes evAlloc evBox qbo evMake evStore evAppend evBuild cellsO evNew TD.agg setParts partsOk fillA placeSt placeAr qba bOf isC splice
@[simp] theorem oneA_int (k:IntKind) (n:Int):oneA (.int k n)=true:=rfl
@[simp] theorem oneA_bool (b:Bool):oneA (.bool b)=true:=rfl
@[simp] theorem oneA_str (b:List UInt8):oneA (.str b)=true:=rfl
@[simp] theorem oneA_nilp:oneA .nilp=true:=rfl
@[simp] theorem oneA_nils:oneA .nils=true:=rfl
@[simp] theorem oneA_nili:oneA .nili=true:=rfl
@[simp] theorem oneA_ifc:oneA .ifc=true:=rfl
@[simp] theorem oneA_ptr (a b c:Nat):oneA (.ptr a b c)=true:=rfl
@[simp] theorem oneA_sl (a b c:Nat):oneA (.sl a b c)=true:=rfl
@[simp] theorem oneA_slc (a b c e:Nat):oneA (.slc a b c e)=true:=rfl
@[simp] theorem oneA_lst (a:Nat) (b:List (List AV)):oneA (.lst a b)=true:=rfl
@[simp] theorem oneA_elm (b:List AV):oneA (.elm b)=true:=rfl
@[simp] theorem oneA_fn (f:Nat) (b:List AV):oneA (.fn f b)=true:=rfl
attribute [simp] evRes1 evResL resOf hpLe
@[simp] theorem drawA_nil:drawA P K [] s=K s:=rfl
@[simp] theorem drawA_cons (o:DOper) (r:List DOper):drawA P K (o::r) s=(frA P o.fr s∧guardD P o s (drawA P K r)):=rfl
@[simp] theorem frA_nil:frA P [] s=True:=rfl
@[simp] theorem frA_cons (k:Nat) (op:Op) (r:List (Nat×Op)):frA P ((k,op)::r) s=((outA (opS P ⟨some k,op,0,"",#[],none⟩ s) (fun _=>True)∧s.h k=none)∧frA P r s):=rfl
@[simp] theorem opS_alloc (ty:Nat):opS P ⟨some k,.alloc ty,0,"",#[],none⟩ s=evAlloc P s k ty:=rfl
@[simp] theorem opS_box (ty:Nat) (x:Operand):opS P ⟨some k,.box ty x,0,"",#[],none⟩ s=evBox P s k ty (opd s.t x):=rfl
@[simp] theorem opS_buildSlice (ty len:Nat) (parts:Array (Nat×Operand)):opS P ⟨some k,.buildSlice ty len parts,0,"",#[],none⟩ s=qbo P s k ty len (parts.toList.map fun x=>(x.1,opd s.t x.2)):=rfl
@[simp] theorem opS_makeSlice (ty:Nat) (x y:Operand):opS P ⟨some k,.makeSlice ty x y,0,"",#[],none⟩ s=evMake P s k ty (opd s.t x) (opd s.t y):=rfl
@[simp] theorem guardD_none (op:Op) (rd av:List Nat) (fr:List (Nat×Op)):guardD P ⟨⟨none,d,op⟩,rd,av,fr⟩ s K=stepD P rd av op d s K:=rfl
def gdD (P:Program) (g:Nat) (want:Bool) (rd av:List Nat) (op:Op) (d:Option Nat) (s:S) (K:S→Prop):AV→Prop
 | .bool b=>(b=want→stepD P rd av op d ⟨upd s.t g (.bool want),s.h,s.u⟩ K)∧(b=(!want)→K ⟨putA (upd s.t g (.bool (!want))) d (.tup []),s.h,s.u⟩)
 | .tup _=>K ⟨putA s.t d (.tup []),s.h,s.u⟩
 | _=>False
@[simp] theorem guardD_some (g:Nat) (want:Bool) (op:Op) (rd av:List Nat) (fr:List (Nat×Op)):guardD P ⟨⟨some (g,want),d,op⟩,rd,av,fr⟩ s K=gdD P g want rd av op d s K (s.t g):=by
 simp only[guardD,gdD]
 cases hv:s.t g <;> try rfl
 rename_i b
 cases b <;> cases want <;> simp[upd_self _ _ _ hv]
@[simp] theorem gdD_tt (g:Nat) (op:Op) (rd av:List Nat):gdD P g true rd av op d s K (.bool true)=stepD P rd av op d ⟨upd s.t g (.bool true),s.h,s.u⟩ K:=by simp[gdD]
@[simp] theorem gdD_ff (g:Nat) (op:Op) (rd av:List Nat):gdD P g false rd av op d s K (.bool false)=stepD P rd av op d ⟨upd s.t g (.bool false),s.h,s.u⟩ K:=by simp[gdD]
@[simp] theorem gdD_tf (g:Nat) (op:Op) (rd av:List Nat):gdD P g true rd av op d s K (.bool false)=K ⟨putA (upd s.t g (.bool false)) d (.tup []),s.h,s.u⟩:=by simp[gdD]
@[simp] theorem gdD_ft (g:Nat) (op:Op) (rd av:List Nat):gdD P g false rd av op d s K (.bool true)=K ⟨putA (upd s.t g (.bool true)) d (.tup []),s.h,s.u⟩:=by simp[gdD]
@[simp low] theorem gdD_bool (g:Nat) (want b:Bool) (op:Op) (rd av:List Nat):gdD P g want rd av op d s K (.bool b)=((b=want→stepD P rd av op d ⟨upd s.t g (.bool want),s.h,s.u⟩ K)∧(b=(!want)→K ⟨putA (upd s.t g (.bool (!want))) d (.tup []),s.h,s.u⟩)):=rfl
@[simp] theorem gdD_tup (g:Nat) (want:Bool) (l:List AV) (op:Op) (rd av:List Nat):gdD P g want rd av op d s K (.tup l)=K ⟨putA s.t d (.tup []),s.h,s.u⟩:=rfl
@[simp] theorem rstH_app (rd:List Nat) (h:Hp) (id:Nat):rstH rd h id=if rd.contains id then h id else none:=rfl
attribute [simp] avOk
@[simp] theorem stepD_load (rd av:List Nat) (ty:Nat) (a:Operand):stepD P rd av (.load ty a) d s K=outV (evLoad P (rstH rd s.h) ty (opd s.t a)) d s K:=by
 rfl
@[simp] theorem stepD_build (rd av:List Nat) (ty:Nat) (parts:Array (Nat×Operand)):stepD P rd av (.build ty parts) d s K=outV (evBuild P ty (parts.toList.map fun x=>(x.1,opd s.t x.2))) d s K:=by
 rfl
@[simp] theorem stepD_pick (rd av:List Nat) (c a b:Operand):stepD P rd av (.pick c a b) d s K=outV (evPick (opd s.t c) (opd s.t a) (opd s.t b)) d s K:=by
 rfl
@[simp] theorem stepD_nilCheck (rd av:List Nat) (x:Operand):stepD P rd av (.nilCheck x) d s K=outV (evNC (opd s.t x)) d s K:=by
 rfl
@[simp] theorem stepD_binOp (rd av:List Nat) (op:BinOp) (xt:Nat) (x y:Operand) (yt:Nat):stepD P rd av (.binOp op xt x y yt) d s K=outV (evBin P op xt x y (opd s.t x) (opd s.t y)) d s K:=by
 rfl
@[simp] theorem stepD_unOp (rd av:List Nat) (op:UnOp) (xt:Nat) (x:Operand):stepD P rd av (.unOp op xt x) d s K=outV (evUn op (opd s.t x)) d s K:=by
 rfl
@[simp] theorem stepD_convert (rd av:List Nat) (a b:Nat) (x:Operand):stepD P rd av (.convert a b x) d s K=outV (evConv P (rstH rd s.h) a b (opd s.t x)) d s K:=by
 rfl
@[simp] theorem stepD_slice (rd av:List Nat) (ty:Nat) (x:Operand) (lo hi:Option Operand):stepD P rd av (.slice ty x lo hi none) d s K=outV (evSlice P (rstH rd s.h) ty (opd s.t x) (lo.map (opd s.t)) (hi.map (opd s.t))) d s K:=by
 rfl
@[simp] theorem stepD_fieldAddr (rd av:List Nat) (ty:Nat) (x:Operand) (f:Nat):stepD P rd av (.fieldAddr ty x f) d s K=outV (evFieldAddr P ty f (opd s.t x)) d s K:=by
 rfl
@[simp] theorem stepD_field (rd av:List Nat) (ty:Nat) (x:Operand) (f:Nat):stepD P rd av (.field ty x f) d s K=outV (evField P ty f (opd s.t x)) d s K:=by
 rfl
@[simp] theorem stepD_indexAddr (rd av:List Nat) (ty:Nat) (x i:Operand):stepD P rd av (.indexAddr ty x i) d s K=outV (evIndexAddr P (rstH rd s.h) ty (opd s.t x) (opd s.t i)) d s K:=by
 rfl
@[simp] theorem stepD_index (rd av:List Nat) (ty:Nat) (x i:Operand):stepD P rd av (.index ty x i) d s K=outV (evIndex P ty (opd s.t x) (opd s.t i)) d s K:=by
 rfl
@[simp] theorem stepD_extract (rd av:List Nat) (x:Operand) (ix:Nat):stepD P rd av (.extract x ix) d s K=outV (evExt (opd s.t x) ix) d s K:=by
 rfl
@[simp] theorem stepD_len (rd av:List Nat) (x:Operand) (ty:Nat):stepD P rd av (.call ⟨.builtin .len,#[x],#[ty]⟩) d s K=outV (evLen P ty (opd s.t x)) d s K:=by
 rfl
@[simp] theorem stepD_move (rd av:List Nat) (x:Operand):stepD P rd av (.move x) d s K=K ⟨putA s.t d (opd s.t x),s.h,s.u⟩:=by
 show outV (some (True,opd s.t x)) d s K=_
 simp
@[simp] theorem stepD_assign (rd av:List Nat) (x:Operand):stepD P rd av (.assign x) d s K=K ⟨putA s.t d (opd s.t x),s.h,s.u⟩:=by
 show outV (some (True,opd s.t x)) d s K=_
 simp
@[simp] theorem stepD_alloc (rd av:List Nat) (ty:Nat):stepD P rd av (.alloc ty) d s K=stepA P (.alloc ty) d s (fun s'=>avOk av s.h s'.h∧K s'):=rfl
@[simp] theorem stepD_box (rd av:List Nat) (ty:Nat) (x:Operand):stepD P rd av (.box ty x) d s K=stepA P (.box ty x) d s (fun s'=>avOk av s.h s'.h∧K s'):=rfl
@[simp] theorem stepD_buildSlice (rd av:List Nat) (ty len:Nat) (parts:Array (Nat×Operand)):stepD P rd av (.buildSlice ty len parts) d s K=stepA P (.buildSlice ty len parts) d s (fun s'=>avOk av s.h s'.h∧K s'):=rfl
@[simp] theorem stepD_makeSlice (rd av:List Nat) (ty:Nat) (x y:Operand):stepD P rd av (.makeSlice ty x y) d s K=stepA P (.makeSlice ty x y) d s (fun s'=>avOk av s.h s'.h∧K s'):=rfl
@[simp] theorem stepD_store (rd av:List Nat) (ty:Nat) (x y:Operand):stepD P rd av (.store ty x y) d s K=stepA P (.store ty x y) d s (fun s'=>avOk av s.h s'.h∧K s'):=rfl
@[simp] theorem stepD_append (av:List Nat) (args:Array Operand) (tys:Array Nat):stepD P [] av (.call ⟨.builtin .append,args,tys⟩) d s K=stepA P (.call ⟨.builtin .append,args,tys⟩) d s (fun s'=>avOk av s.h s'.h∧K s'):=by
 show((rdG []=true→_)∧_)=_
 simp[rdG]
def gOkV (rd:List Nat) (x y:AV):Prop:=(match x with | .sl id _ _=>(rd.drop 1).contains id=true | _=>False)∧(match y with | .lst _ _=>True | _=>False)
@[simp] theorem gOkV_sl (rd:List Nat) (id e len sz:Nat) (els:List (List AV)):gOkV rd (.sl id e len) (.lst sz els)=((rd.drop 1).contains id=true):=by simp[gOkV]
@[simp] theorem stepD_append2 (rd av:List Nat) (x y:Operand) (tys:Array Nat):stepD P (0::rd) av (.call ⟨.builtin .append,#[x,y],tys⟩) d s K=(gOkV (0::rd) (opd s.t x) (opd s.t y)∧stepA P (.call ⟨.builtin .append,#[x,y],tys⟩) d s (fun s'=>avOk av s.h s'.h∧K s')):=by
 have h:gOk (0::rd) (.call ⟨.builtin .append,#[x,y],tys⟩) s.t=gOkV (0::rd) (opd s.t x) (opd s.t y):=rfl
 show((rdG (0::rd)=true→gOk (0::rd) (.call ⟨.builtin .append,#[x,y],tys⟩) s.t)∧_)=_
 grind[rdG]
@[simp] theorem stepD_copy (rd av:List Nat) (args:Array Operand) (tys:Array Nat):stepD P rd av (.call ⟨.builtin .copy,args,tys⟩) d s K=stepA P (.call ⟨.builtin .copy,args,tys⟩) d s (fun s'=>avOk av s.h s'.h∧K s'):=rfl
@[simp] theorem stepD_call (rd av:List Nat) (x:Operand) (args:Array Operand) (tys:Array Nat):stepD P rd av (.call ⟨.value x,args,tys⟩) d s K=stepA P (.call ⟨.value x,args,tys⟩) d s (fun s'=>avOk av s.h s'.h∧K s'):=rfl
def bitI (op:BinOp) (k:IntKind) (x y:Int):Int :=
 match bitsOp op k x y with
 | some n=>n
 | none=>0
@[simp] theorem bitsOp_xor (k:IntKind) (x y:Int):bitsOp .xor k x y=some (bitI .xor k x y):=rfl
@[simp] theorem bitsOp_and (k:IntKind) (x y:Int):bitsOp .and k x y=some (bitI .and k x y):=rfl
@[simp] theorem bitsOp_or (k:IntKind) (x y:Int):bitsOp .or k x y=some (bitI .or k x y):=rfl
theorem i64_wrap_nat (n:Nat) (h:n<9223372036854775808):IntKind.i64.wrap (n:Int)=n:=qao _ (by omega)
theorem bitI_xor_nat (a b:Nat) (ha:a<4611686018427387904) (hb:b<4611686018427387904):bitI .xor .i64 (a:Int) (b:Int)=((a ^^^ b:Nat):Int)∧a ^^^ b<4611686018427387904:=by
 have h:=Nat.xor_lt_two_pow (n:=62) ha hb
 have h':a ^^^ b<4611686018427387904:=h
 refine⟨?_,h'⟩
 show IntKind.i64.wrap (((BitVec.ofInt 64 (a:Int)) ^^^ (BitVec.ofInt 64 (b:Int))).toNat:Int)=_
 grind[i64_wrap_nat]
attribute [simp] ren renL rho phOf
theorem thenQ_normal (N:S→Prop) (Q:Exit→S→Prop):thenQ N Q .normal s=N s:=rfl
theorem thenQ_exit (N:S→Prop) (Q:Exit→S→Prop) (i:Nat):thenQ N Q (.exit i) s=Q (.exit i) s:=rfl
theorem thenQ_ret (N:S→Prop) (Q:Exit→S→Prop):thenQ N Q .ret s=Q .ret s:=rfl
theorem blockQ_normal (i:Nat) (Q:Exit→S→Prop):qbw i Q .normal s=Q .normal s:=rfl
theorem blockQ_ret (i:Nat) (Q:Exit→S→Prop):qbw i Q .ret s=Q .ret s:=rfl
theorem blockQ_exit (i j:Nat) (Q:Exit→S→Prop):qbw i Q (.exit j) s=if j=i then Q .normal s else Q (.exit j) s:=rfl
attribute [simp] thenQ_normal thenQ_exit thenQ_ret blockQ_normal blockQ_ret blockQ_exit
end
end Go.Av

end
