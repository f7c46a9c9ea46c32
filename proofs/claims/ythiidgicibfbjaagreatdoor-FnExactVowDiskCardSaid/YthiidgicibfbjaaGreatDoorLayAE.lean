/- Lemmas for the proof, no statement of the seat; no conditions. -/
import Derived.Test.YthiidgicibfbjaaGreatDoorLayAD
set_option linter.unusedSimpArgs false
set_option linter.unusedVariables false
set_option linter.unnecessarySimpa false
set_option maxRecDepth 100000
set_option maxHeartbeats 400000
section
namespace Go.Av
open Go.RowKit
def isV:Op→Bool
 | .move _ | .assign _ | .pick _ _ _ | .build _ _ | .load _ _ | .nilCheck _ | .binOp _ _ _ _ _ | .unOp _ _ _ | .convert _ _ _ | .makeFunc _ _ _ | .slice _ _ _ _ _ | .fieldAddr _ _ _ | .field _ _ _
 | .indexAddr _ _ _ | .index _ _ _ | .extract _ _=>true
 | .call ⟨.builtin .len,_,_⟩=>true
 | _=>false
def isA:Op→Bool
 | .alloc _ | .box _ _ | .buildSlice _ _ _ | .makeSlice _ _ _=>true
 | _=>false
def isF:Op→Bool
 | .call ⟨.value _,_,_⟩=>true
 | _=>false
def isG:Op→Bool
 | .call ⟨.builtin .append,_,_⟩=>true
 | _=>false
def gOk (rd:List Nat) (op:Op) (t:Tm):Prop :=
 match op with
 | .call ⟨.builtin .append,args,_⟩=>match args.toList with
  | [x,y]=>(match opd t x with | .sl id _ _=>(rd.drop 1).contains id=true | _=>False)∧(match opd t y with | .lst _ _=>True | _=>False)
  | _=>False
 | _=>True
def rdG (rd:List Nat):Bool:=match rd with
 | 0::_=>true
 | _=>false
def qrU (rd:List Nat) (op:Op):Bool:=isG op && rdG rd
def qqf (rd:List Nat) (h:Hp):Hp:=fun id=>if rd.contains id then h id else none
def qhc:List Nat→Hp→Hp→Prop
 | [],_,_=>True
 | id::r,h,h'=>h' id=h id∧qhc r h h'
def aOk (P:Program) (a:Oper) (s:S):Prop:=(match opS P a s with | some (q,_)=>q | none=>False)∧(match a.dst with | some d=>s.h d=none | none=>False)
def qAX (P:Program):List Oper→S→Prop
 | [],_=>True
 | a::r,s=>aOk P a s∧qAX P r s
theorem qmb {P:Program} {s:S}:∀ {l:List Oper},qAX P l s→∀ a∈l,aOk P a s
 | [],_,a,ha=>by simp at ha
 | b::r,h,a,ha=>by
  simp only[qE3]at ha;rcases ha with rfl | ha
  ·exact h.1
  ·exact qmb h.2 a ha
theorem avOk_spec {h h':Hp}:∀ {av:List Nat},qhc av h h'↔∀ id∈av,h' id=h id
 | []=>by simp[qhc]
 | id::r=>by simp[qhc,avOk_spec (av:=r)]
structure Itm where
 k:Nat
 rd:List Nat
 av:List Nat
 fr:List Nat
 B:List Nat
deriving DecidableEq,Inhabited
def qzC (ops:Array Oper) (fr:List Nat):List Oper:=fr.filterMap fun i=>ops[i]?
def qdY (P:Program) (n:Nat) (ops:Array Oper) (it:Itm) (o:Oper) (s:S) (K:S→Prop):Prop :=
 if isV o.op=true then
  match qbb P s.t (qqf it.rd s.h) o with
  | some (p,v)=>p∧(match o.dst with | some d=>d<n | none=>True)∧K ⟨qcw s.t o.dst v,s.h,s.u⟩
  | none=>False
 else match o.op with
  | .call ⟨.value x,args,_⟩=>qiW P n (opd s.t x) (args.toList.map (opd s.t)) o.dst s (fun s'=>qhc it.av s.h s'.h∧K s')
  | _=>(qrU it.rd o.op=true→gOk it.rd o.op s.t)∧qhx n o.dst (opS P o s) (fun s'=>qhc it.av s.h s'.h∧K s')
def qfD (ops:Array Oper) (o:Oper) (t:Tm):Option Bool :=
 match o.guard with
 | none=>some true
 | some (g,want)=>match (ops[g]?).bind (·.dst)with
  | some d=>match t d with
   | .bool b=>some (b == want)
   | .tup _=>some false
   | _=>none
  | none=>none
def qaB (P:Program) (n:Nat) (ops:Array Oper) (it:Itm) (o:Oper) (s:S) (K:S→Prop):Prop :=
 match qfD ops o s.t with
 | some true=>qdY P n ops it o s K
 | some false=>(match o.dst with | some d=>d<n | none=>True)∧K ⟨qcw s.t o.dst (.tup []),s.h,s.u⟩
 | none=>False
section
variable {P:Program} {n:Nat} {ops:Array Oper} {s:S} {t t':Tm} {h h':Hp} {K K':S→Prop}
def qdG (ops:Array Oper) (o:Oper) (t t':Tm):Prop:=∀ i∈o.looksAt ops,t' i=t i
theorem qdD {o:Oper} (ha:qdG ops o t t') {x:Operand} (hx:x∈o.op.operands.toList):opd t' x=opd t x:=by
 cases x with
 | tmp i =>
  refine ha i ?_;unfold Oper.looksAt;exact qE8 _ (List.mem_filterMap.2 ⟨_,hx,rfl⟩)
 | _=>rfl
theorem qer {o:Oper} (ha:qdG ops o t t'):qfD ops o t'=qfD ops o t:=by
 unfold qfD;cases hg:o.guard with
 | none=>rfl
 | some gw =>
  obtain⟨g,want⟩:=gw;simp only;cases hd:(ops[g]?).bind (·.dst)with
  | none=>rfl
  | some d =>
   simp only;have:t' d=t d:=ha d (by unfold Oper.looksAt;simp[hg,hd]);rw[this]
theorem qes {o:Oper} (ha:qdG ops o t t'):qbb P t' h o=qbb P t h o:=by
 obtain⟨dst,op,ty,pos,after,guard⟩:=o;have hop:∀ x,x∈op.operands.toList→opd t' x=opd t x:=fun x hx=>qdD ha hx;cases op with
 | move x=>simp only[qbb,hop x (by simp[Op.operands])]
 | assign x=>simp only[qbb,hop x (by simp[Op.operands])]
 | pick c a b=>simp only[qbb,hop c (by simp[Op.operands]),hop a (by simp[Op.operands]),hop b (by simp[Op.operands])]
 | build ty parts =>
  simp only[qbb]
  congr 1
  refine qEg fun x hx=>?_;rw[hop x.2 (by simp only[Op.operands,qD6];exact⟨x,hx,rfl⟩)]
 | load ty a=>simp only[qbb,hop a (by simp[Op.operands])]
 | nilCheck x=>simp only[qbb,hop x (by simp[Op.operands])]
 | binOp op xt x y yt=>simp only[qbb,hop x (by simp[Op.operands]),hop y (by simp[Op.operands])]
 | unOp op xt x=>simp only[qbb,hop x (by simp[Op.operands])]
 | convert a b x=>simp only[qbb,hop x (by simp[Op.operands])]
 | makeFunc fn first cap =>
  cases fn with
  | func f =>
   simp only[qbb];have:cap.toList.map (opd t')=cap.toList.map (opd t):=qEg fun x hx=>hop x (by simp[Op.operands];exact .inr (by simpa using hx));rw[this]
  | _=>rfl
 | slice ty x lo hi mx =>
  have e1:lo.map (opd t')=lo.map (opd t):=by
   cases lo with
   | none=>rfl
   | some y=>simp[hop y (by simp[Op.operands])]
  have e2:hi.map (opd t')=hi.map (opd t):=by
   cases hi with
   | none=>rfl
   | some y=>simp[hop y (by simp[Op.operands])]
  cases mx with
  | none=>simp only[qbb,hop x (by simp[Op.operands]),e1,e2]
  | some m=>simp only[qbb,hop x (by simp[Op.operands]),e1,e2,hop m (by simp[Op.operands])]
 | fieldAddr s x f=>simp only[qbb,hop x (by simp[Op.operands])]
 | field s x f=>simp only[qbb,hop x (by simp[Op.operands])]
 | indexAddr ty x i=>simp only[qbb,hop x (by simp[Op.operands]),hop i (by simp[Op.operands])]
 | index ty x i=>simp only[qbb,hop x (by simp[Op.operands]),hop i (by simp[Op.operands])]
 | extract x ix=>simp only[qbb,hop x (by simp[Op.operands])]
 | call c =>
  obtain⟨callee,args,tys⟩:=c;have hq:∀ x,x∈args.toList→opd t' x=opd t x:=fun x hx=>hop x (by simp[Op.operands,Call.operands];exact .inr (by simpa using hx));cases callee with
  | builtin b =>
   cases b <;> simp only[qbb] <;> (generalize hl:args.toList=l at hq ⊢;generalize tys.toList=m;match l,m,hq with
    | [],_,_=>rfl
    | [x],[],hq=>rfl
    | [x],[_],hq=>first | rfl | simp only[hq x (by simp)]
    | [x],_::_::_,hq=>rfl
    | [x,y],_,hq=>first | rfl | simp only[hq x (by simp),hq y (by simp)]
    | _::_::_::_,_,_=>rfl)
  | _=>rfl
 | _=>rfl
theorem qo0 (hm:∀ id o,h id=some o→h' id=some o) {o:Oper} {p:Prop} {v:AV} (he:qbb P t h o=some (p,v)):qbb P t h' o=some (p,v):=by
 obtain⟨dst,op,ty,pos,after,guard⟩:=o;cases op with
 | load ty a =>
  simp only[qbb]at he ⊢;generalize opd t a=x at he ⊢;cases x <;> simp only[qfo]at he ⊢ <;> try exact he
  rename_i id e off;cases hid:h id with
  | none=>simp[hid]at he
  | some ob=>rw[hm _ _ hid];rw[hid]at he;exact he
 | convert a b x =>
  simp only[qbb]at he ⊢;generalize opd t x=y at he ⊢;cases y <;> simp only[qdL]at he ⊢ <;> try exact he
  rename_i id e off;cases hid:h id with
  | none=>simp[hid]at he
  | some ob=>rw[hm _ _ hid];rw[hid]at he;exact he
 | slice ty x lo hi mx =>
  cases mx with
  | some m =>
   simp only[qbb]at he ⊢;unfold qfa at he ⊢;split at he
   ·split at he
    ·split at he
     ·generalize opd t x=y at he ⊢;cases y <;> simp only at he ⊢ <;> try exact he
      all_goals
       split at he
       ·rename_i o ho;rw[hm _ _ ho];exact he
       ·cases he
     ·cases he
    ·cases he
   ·cases he
  | none =>
   simp only[qbb]at he ⊢;generalize opd t x=y at he ⊢;cases y <;> simp only[qcn]at he ⊢ <;> try exact he
   ·rename_i id e len;cases hid:h id with
    | none =>
     rw[hid]at he;split at he
     ·split at he
      ·rename_i h2;cases h2
      ·cases he
     ·cases he
    | some ob=>rw[hm _ _ hid];rw[hid]at he;exact he
   ·rename_i id e len cap;cases hid:h id with
    | none =>
     rw[hid]at he;split at he
     ·split at he
      ·rename_i h2;cases h2
      ·cases he
     ·cases he
    | some ob=>rw[hm _ _ hid];rw[hid]at he;exact he
 | indexAddr ty x i =>
  simp only[qbb]at he ⊢;generalize opd t x=y at he ⊢;generalize opd t i=z at he ⊢;cases z <;> simp only[qcu]at he ⊢ <;> try exact he
  cases hty:qaz P ty with
  | none=>simp[hty]at he
  | some ti =>
   simp only[hty]at he ⊢;obtain⟨td,s1,s2,s3⟩:=ti;cases td <;> cases y <;> simp only at he ⊢ <;> try exact he
   ·rename_i id e len;cases hid:h id with
    | none=>simp[hid]at he
    | some ob=>rw[hm _ _ hid];rw[hid]at he;exact he
   ·rename_i id e len cap;cases hid:h id with
    | none=>simp[hid]at he
    | some ob=>rw[hm _ _ hid];rw[hid]at he;exact he
 | makeFunc fn first cap=>cases fn <;> exact he
 | call c =>
  obtain⟨callee,args,tys⟩:=c;cases callee with
  | builtin b=>cases b <;> exact he
  | _=>exact he
 | _=>exact he
def qdT (k:Nat) (v:AV) (r:Option (Prop×S)):Option (Prop×S):=r.map fun r=>(r.1,⟨upd r.2.t k v,r.2.h,r.2.u⟩)
theorem qc9 {d k:Nat} {v x:AV} {sz:Nat} {els:List (List AV)} {u:Us} (hd:d≠k):qbh d ⟨upd t k v,h,u⟩ sz els x=⟨upd (qbh d ⟨t,h,u⟩ sz els x).t k v,(qbh d ⟨t,h,u⟩ sz els x).h,(qbh d ⟨t,h,u⟩ sz els x).u⟩:=by
 simp only[qbh,qcq t v x (qDn hd)]
theorem qlW {d k e1 e2:Nat} {v:AV} {u:Us} (hd:d≠k) (a b:AV):qb3 P ⟨upd t k v,h,u⟩ d e1 e2 a b=qdT k v (qb3 P ⟨t,h,u⟩ d e1 e2 a b):=by
 unfold qb3;generalize qaz P e1=T1;generalize qaz P e2=T2;cases T1 with
 | none=>rfl
 | some i1 =>
 cases T2 with
 | none=>obtain⟨td1,_,_,_⟩:=i1;cases td1 <;> rfl
 | some i2 =>
 obtain⟨td1,_,_,_⟩:=i1;obtain⟨td2,_,_,_⟩:=i2;cases td1 <;> try rfl
 rename_i e0;cases td2 <;> try rfl
 simp only;generalize qaz P e0=A;generalize qaY h b=B;cases A with
 | none=>simp[qdT]
 | some ie =>
  cases B with
  | none=>simp[qdT]
  | some r =>
   obtain⟨q,sz,ys⟩:=r;cases a <;> simp only <;> try (simp[qdT];done)
   ·simp[qdT,qc9 (hd)]
   ·split
    ·rename_i ob _;simp[qdT,qcq t v _ (qDn (hd))]
    ·simp[qdT]
theorem qrp {d k e1 e2:Nat} {v:AV} {u:Us} (hd:d≠k) (a b:AV):qfh P ⟨upd t k v,h,u⟩ d e1 e2 a b=qdT k v (qfh P ⟨t,h,u⟩ d e1 e2 a b):=by
 unfold qfh;generalize ha:a=a';generalize hb:b=b';split
 ·split
  ·unfold qdA;generalize qaz P e1=T1;generalize qaz P e2=T2;split
   ·rename_i id _ _ _ _ _ _ _ _ e _ _ _ _ _ _ _
    dsimp only
    generalize qaz P e=T3;generalize h id=O;cases T3 <;> cases O <;> simp[qdT,qc9 hd]
   ·simp[qdT]
  ·simp[qdT]
 ·rename_i id _ _ _ _;unfold qcG;generalize qaz P e1=T1;generalize qaz P e2=T2;split
  ·rename_i e _ _ _ _ _ _ _
   dsimp only
   generalize qaz P e=T3;generalize h id=O;generalize qaY h b'=B;cases T3 <;> cases B <;> cases O <;> try (simp[qdT];done)
   simp only;split
   ·simp[qdT,qcq t v _ (qDn hd)]
   ·simp[qdT,qc9 hd]
  ·simp[qdT]
 ·exact qlW hd _ _
theorem qo3 {d:Option Nat} {k e1:Nat} {v:AV} {u:Us} (hd:∀ x,d=some x→x≠k) (a b:AV):qf5 P ⟨upd t k v,h,u⟩ d e1 a b=qdT k v (qf5 P ⟨t,h,u⟩ d e1 a b):=by
 unfold qf5;generalize qaz P e1=T1;split
 ·rename_i e _ _ _
  dsimp only
  generalize qaz P e=T3;generalize qaY h b=B;generalize qvs a=A;cases T3 <;> cases B <;> cases A <;> try (simp[qdT];done)
  rename_i A;obtain⟨id,e0,len⟩:=A
  dsimp only
  generalize h id=O;cases O
  ·simp[qdT]
  ·cases d with
   | none=>simp[qdT,qcw]
   | some x=>simp[qdT,qcw,qcq t v _ (qDn (hd x rfl))]
 ·simp[qdT]
theorem qmS {k e1:Nat} {v:AV} {u:Us} (a:AV):qek P ⟨upd t k v,h,u⟩ e1 a=qdT k v (qek P ⟨t,h,u⟩ e1 a):=by
 unfold qek;generalize qaz P e1=T1;split
 ·rename_i e _ _ _
  dsimp only
  generalize qaz P e=T3;generalize qvs a=A;cases T3 <;> cases A <;> try (simp[qdT];done)
  rename_i A;obtain⟨id,e0,len⟩:=A
  dsimp only
  generalize h id=O;cases O <;> simp[qdT]
 ·simp[qdT]
theorem qv7 {o:Oper} {k:Nat} {v:AV} {u:Us} (ha:qdG ops o t (upd t k v)) (hd:o.dst≠some k):opS P o ⟨upd t k v,h,u⟩=qdT k v (opS P o ⟨t,h,u⟩):=by
 have hv:qfu P o ⟨upd t k v,h,u⟩=qdT k v (qfu P o ⟨t,h,u⟩):=by
  unfold qfu;simp only[qes ha];cases qbb P t h o with
  | none=>rfl
  | some r =>
   obtain⟨p,x⟩:=r;simp only[qdT,qDz];cases hx:o.dst with
   | none=>rfl
   | some d=>simp only[qcw];rw[qcq t v x (by rintro rfl;exact hd hx)]
 have hev:=qes (P:=P) (h:=h) ha;obtain⟨dst,op,ty,pos,after,guard⟩:=o;have hop:∀ x,x∈op.operands.toList→opd (upd t k v) x=opd t x:=fun x hx=>qdD ha hx;have hdd:∀ d,dst=some d→d≠k:=fun d h1 h2=>hd (by simp[h1,h2]);cases op with
 | alloc e =>
  cases dst with
  | none=>rfl
  | some d =>
   simp only[opS,qel];split <;> simp[qdT,qc9 (hdd d rfl)]
 | box e x =>
  cases dst with
  | none=>rfl
  | some d =>
   simp only[opS,qku,hop x (by simp[Op.operands])];split <;> simp[qdT,qc9 (hdd d rfl)]
 | buildSlice e len parts =>
  cases dst with
  | none=>rfl
  | some d =>
   have:(parts.toList.map fun x=>(x.1,opd (upd t k v) x.2))=parts.toList.map fun x=>(x.1,opd t x.2):=qEg fun x hx=>by
    rw[hop x.2 (by simp only[Op.operands,qD6];exact⟨x,hx,rfl⟩)]
   simp only[opS,qbt,this];split
   ·split
    ·split <;> simp[qdT,qc9 (hdd d rfl)]
    ·simp[qdT]
   ·simp[qdT]
 | makeSlice e x y =>
  cases dst with
  | none=>rfl
  | some d =>
   simp only[opS,hop x (by simp[Op.operands]),hop y (by simp[Op.operands])];generalize opd t x=a;generalize opd t y=b;cases a <;> cases b <;> simp only[qfn] <;> try (simp[qdT];done)
   split
   ·split <;> simp[qdT,qc9 (hdd d rfl)]
   ·simp[qdT]
 | store e x y =>
  cases dst with
  | some d=>rfl
  | none =>
   simp only[opS,hop x (by simp[Op.operands]),hop y (by simp[Op.operands])];generalize opd t x=a;cases a <;> simp only[qfF] <;> try (simp[qdT];done)
   split <;> simp[qdT]
 | convert e1 e2 x =>
  cases dst with
  | none=>rfl
  | some d =>
   simp only[opS,hev,hop x (by simp[Op.operands])];split
   ·rename_i p w _;simp[qdT,qcq t v w (qDn (hdd d rfl))]
   ·generalize opd t x=a;cases a <;> simp only[qfG] <;> try (simp[qdT];done)
    split <;> try (simp[qdT];done)
    split <;> simp[qdT,qc9 (hdd d rfl)]
 | call c =>
  obtain⟨callee,args,tys⟩:=c;have hq:∀ x,x∈args.toList→opd (upd t k v) x=opd t x:=fun x hx=>hop x (by simp[Op.operands,Call.operands];exact .inr (by simpa using hx));cases callee with
  | builtin b =>
   cases b
   case append =>
    cases dst with
    | none=>rfl
    | some d =>
     simp only[opS];generalize hl:args.toList=l at hq ⊢;generalize tys.toList=m
     match l,m,hq with
     | [x,y],[e1,e2],hq =>
      simp only[hq x (by simp),hq y (by simp)];exact qrp (hdd d rfl) _ _
     | [],_,_=>rfl
     | [_],_,_=>rfl
     | _::_::_::_,_,_=>rfl
     | [_,_],[],_=>rfl
     | [_,_],[_],_=>rfl
     | [_,_],_::_::_::_,_=>rfl
   case copy =>
    simp only[opS];generalize hl:args.toList=l at hq ⊢;generalize tys.toList=m
    match l,m,hq with
    | [x,y],[e1,e2],hq =>
     simp only[hq x (by simp),hq y (by simp)];exact qo3 hdd _ _
    | [],_,_=>rfl
    | [_],_,_=>rfl
    | _::_::_::_,_,_=>rfl
    | [_,_],[],_=>rfl
    | [_,_],[_],_=>rfl
    | [_,_],_::_::_::_,_=>rfl
   case clear =>
    cases dst with
    | some d=>rfl
    | none =>
     simp only[opS];generalize hl:args.toList=l at hq ⊢;generalize tys.toList=m
     match l,m,hq with
     | [x],[e1],hq =>
      simp only[hq x (by simp)];exact qmS _
     | [],_,_=>rfl
     | [_],[],_=>rfl
     | [_],_::_::_,_=>rfl
     | _::_::_,_,_=>rfl
   all_goals exact hv
  | _=>exact hv
 | _=>exact hv
theorem qBH {o:Oper} {p:Prop} {s':S} (he:opS P o s=some (p,s')):∃ v,s'.t=qcw s.t o.dst v:=by
 have hv:qfu P o s=some (p,s')→∃ v,s'.t=qcw s.t o.dst v:=fun he=>by
  unfold qfu at he;split at he
  ·injection he with he;injection he with _ e2;subst e2;exact⟨_,rfl⟩
  ·cases he
 unfold opS at he;split at he
 ·rename_i h1;rw[h1];unfold qel at he;split at he
  ·injection he with he;injection he with _ e2;subst e2;exact⟨_,rfl⟩
  ·cases he
 ·cases he
 ·rename_i h1;rw[h1];unfold qku at he;split at he
  ·injection he with he;injection he with _ e2;subst e2;exact⟨_,rfl⟩
  ·cases he
 ·cases he
 ·rename_i h1;rw[h1];unfold qbt at he;split at he
  ·split at he
   ·split at he
    ·injection he with he;injection he with _ e2;subst e2;exact⟨_,rfl⟩
    ·cases he
   ·cases he
  ·cases he
 ·cases he
 ·rename_i h1;rw[h1];unfold qfn at he;split at he
  ·split at he
   ·split at he
    ·injection he with he;injection he with _ e2;subst e2;exact⟨_,rfl⟩
    ·cases he
   ·cases he
  ·cases he
 ·cases he
 ·rename_i h1;rw[h1];unfold qfF at he;split at he
  ·split at he
   ·injection he with he;injection he with _ e2;subst e2;exact⟨.top,rfl⟩
   ·cases he
  ·cases he
 ·cases he
 ·rename_i h1;rw[h1];split at he
  ·injection he with he;injection he with _ e2;subst e2;exact⟨_,rfl⟩
  ·unfold qfG at he;split at he
   ·split at he
    ·split at he
     ·injection he with he;injection he with _ e2;subst e2;exact⟨_,rfl⟩
     ·cases he
    ·cases he
   ·cases he
 ·cases he
 ·rename_i h1;rw[h1];split at he
  ·unfold qfh at he;split at he
   ·split at he
    ·unfold qdA at he;split at he
     ·split at he
      ·injection he with he;injection he with _ e2;subst e2;exact⟨_,rfl⟩
      ·cases he
     ·cases he
    ·cases he
   ·unfold qcG at he;split at he
    ·split at he
     ·split at he
      ·injection he with he;injection he with _ e2;subst e2;exact⟨_,rfl⟩
      ·injection he with he;injection he with _ e2;subst e2;exact⟨_,rfl⟩
     ·cases he
    ·cases he
   ·unfold qb3 at he;split at he
    ·split at he
     ·split at he
      ·injection he with he;injection he with _ e2;subst e2;exact⟨_,rfl⟩
      ·split at he
       ·injection he with he;injection he with _ e2;subst e2;exact⟨_,rfl⟩
       ·cases he
      ·cases he
     ·cases he
    ·cases he
  ·cases he
 ·cases he
 ·split at he
  ·unfold qf5 at he;split at he
   ·split at he
    ·split at he
     ·injection he with he;injection he with _ e2;subst e2;exact⟨_,rfl⟩
     ·cases he
    ·cases he
   ·cases he
  ·cases he
 ·rename_i h1;rw[h1];split at he
  ·unfold qek at he;split at he
   ·split at he
    ·split at he
     ·injection he with he;injection he with _ e2;subst e2;exact⟨.top,rfl⟩
     ·cases he
    ·cases he
   ·cases he
  ·cases he
 ·cases he
 ·exact hv he
theorem qgr {t:Tm} {d:Option Nat} {v:AV} {x:Nat} (h:d≠some x):qcw t d v x=t x:=by
 cases d with
 | none=>rfl
 | some k=>exact qau _ _ (by rintro rfl;exact h rfl)
theorem qoK {o:Oper} (hA:isA o.op=true) {p:Prop} {s':S} (he:opS P o s=some (p,s')):∃ d sz els v q0,o.dst=some d∧s'=qbh d s sz els v∧(p↔d ∉ s.u∧q0) ∧
  ∀ s2:S,qdG ops o s.t s2.t→∃ p2,opS P o s2=some (p2,qbh d s2 sz els v)∧(p2↔d ∉ s2.u∧q0):=by
 obtain⟨dst,op,ty,pos,after,guard⟩:=o;have hop:∀ {s2:S},qdG ops ⟨dst,op,ty,pos,after,guard⟩ s.t s2.t→∀ x,x∈op.operands.toList→opd s2.t x=opd s.t x:=fun ha x hx=>qdD ha hx;cases op <;> simp only[isA,qDA]at hA
 case alloc e =>
  cases dst with
  | none=>cases he
  | some d =>
   simp only[opS,qel]at he ⊢;cases hT:qaz P e with
   | none=>rw[hT]at he;cases he
   | some i =>
    rw[hT]at he;simp only[qDs,qDt]at he;obtain⟨rfl,rfl⟩:=he;exact⟨d,_,_,_,i.zero.length=i.size∧0<i.size,rfl,rfl,qEk,fun s2 ha=>⟨_,rfl,qEk⟩⟩
 case box e x =>
  cases dst with
  | none=>cases he
  | some d =>
   simp only[opS,qku]at he ⊢;split at he
   ·rename_i i cs hT hc;simp only[qDs,qDt]at he;obtain⟨rfl,rfl⟩:=he;refine⟨d,_,_,_,cs.length=i.size∧0<i.size,rfl,rfl,qEk,fun s2 ha=>⟨_,?_,qEk⟩⟩;rw[hop ha x (by simp[Op.operands]),hT,hc]
   ·cases he
 case buildSlice e len parts =>
  cases dst with
  | none=>cases he
  | some d =>
   have hpe:∀ s2:S,qdG ops ⟨some d,.buildSlice e len parts,ty,pos,after,guard⟩ s.t s2.t→(parts.toList.map fun x=>(x.1,opd s2.t x.2))=parts.toList.map fun x=>(x.1,opd s.t x.2):=fun s2 ha=>qEg fun x hx=>by
    rw[hop ha x.2 (by simp only[Op.operands,qD6];exact⟨x,hx,rfl⟩)]
   simp only[opS]at he ⊢;unfold qbt at he;split at he
   ·rename_i e0 _ _ _ hT;split at he
    ·rename_i ie hE;split at he
     ·rename_i els hS;simp only[qDs,qDt]at he;obtain⟨rfl,rfl⟩:=he;refine⟨d,_,_,_,_,rfl,rfl,qEk,fun s2 ha=>⟨_,?_,qEk⟩⟩;rw[hpe s2 ha];simp only[qbt,hT,hE,hS]
     ·cases he
    ·cases he
   ·cases he
 case makeSlice e x y =>
  cases dst with
  | none=>cases he
  | some d =>
   simp only[opS]at he ⊢;unfold qfn at he;split at he
   ·rename_i k1 l k2 c hx hy;split at he
    ·rename_i e0 _ _ _ hT;split at he
     ·rename_i ie hE;simp only[qDs,qDt]at he;obtain⟨rfl,rfl⟩:=he;refine⟨d,_,_,_,_,rfl,rfl,qEk,fun s2 ha=>⟨_,?_,qEk⟩⟩;rw[hop ha x (by simp[Op.operands]),hop ha y (by simp[Op.operands]),hx,hy];simp only[qfn,hT,hE]
     ·cases he
    ·cases he
   ·cases he
theorem qfU {d:Option Nat} {r:Option (Prop×S)} (hk:∀ p s',r=some (p,s')→K s'→K' s') (h:qhx n d r K):qhx n d r K':=by
 unfold qhx at *
 split at h
 ·exact⟨h.1,h.2.1,hk _ _ rfl h.2.2⟩
 ·exact h
theorem qgW {v:AV} {args:List AV} {d:Option Nat} (hk:∀ s',(∃ x,s'.t=qcw s.t d x)→K s'→K' s') (h:qiW P n v args d s K):qiW P n v args d s K':=by
 unfold qiW at *
 split at h
 ·obtain⟨h1,h2,hv,pl,argsC,L,R,h3,h4,h5⟩:=h;refine⟨h1,h2,hv,pl,argsC,L,R,h3,h4,fun r L' hr=>?_⟩;obtain⟨φ,h6,h7⟩:=h5 r L' hr;exact⟨φ,h6,hk _ ⟨_,rfl⟩ h7⟩
 ·exact h
def qzh (it:Itm) (o:Oper) (s s':S):Prop:=(∀ x,o.dst≠some x→s'.t x=s.t x)∧qhc it.av s.h s'.h
theorem ql8 {av:List Nat}:qhc av h h:=avOk_spec.2 fun _ _=>rfl
theorem qox {it:Itm} {o:Oper} (h:qdY P n ops it o s K):qdY P n ops it o s (fun s'=>K s'∧qzh it o s s'):=by
 unfold qdY at *
 split at h
 ·rename_i hv;rw[if_pos hv];split at h
  ·exact⟨h.1,h.2.1,h.2.2,fun x hx=>qgr hx,ql8⟩
  ·exact h
 ·rename_i hv;rw[if_neg hv];split at h
  ·exact qgW (fun s' ⟨x,hx⟩ hk=>⟨hk.1,hk.2,fun y hy=>by rw[hx];exact qgr hy,hk.1⟩) h
  ·refine⟨h.1,qfU (fun p s' he hk=>⟨hk.1,hk.2,fun y hy=>?_,hk.1⟩) h.2⟩;obtain⟨x,hx⟩:=qBH he;rw[hx];exact qgr hy
theorem qmJ {it:Itm} {o:Oper} (h:qaB P n ops it o s K):qaB P n ops it o s (fun s'=>K s'∧qzh it o s s'):=by
 unfold qaB at *
 split at h
 ·exact qox h
 ·exact⟨h.1,h.2,fun x hx=>qgr hx,ql8⟩
 ·exact h
theorem qow {it:Itm} {o:Oper} (hk:∀ s,K s→K' s) (h:qdY P n ops it o s K):qdY P n ops it o s K':=by
 unfold qdY at *
 split at h
 ·rename_i hv;rw[if_pos hv];split at h
  ·exact⟨h.1,h.2.1,hk _ h.2.2⟩
  ·exact h
 ·rename_i hv;rw[if_neg hv];split at h
  ·exact qgW (fun s' _ h=>⟨h.1,hk _ h.2⟩) h
  ·exact⟨h.1,qfU (fun p s' he h=>⟨h.1,hk _ h.2⟩) h.2⟩
theorem qcS {it:Itm} {o:Oper} (hk:∀ s,K s→K' s) (h:qaB P n ops it o s K):qaB P n ops it o s K':=by
 unfold qaB at *
 split at h
 ·exact qow hk h
 ·exact⟨h.1,hk _ h.2⟩
 ·exact h
theorem qeI {t:Tm} {d:Option Nat} {k:Nat} {v x:AV} (h:d≠some k):qcw (upd t k v) d x=upd (qcw t d x) k v:=by
 cases d with
 | none=>rfl
 | some j=>exact qcq t v x (by rintro rfl;exact h rfl)
theorem qit {o:Oper} {rd:List Nat} (ha:qdG ops o t t'):gOk rd o.op t'↔gOk rd o.op t:=by
 have hop:∀ y,y∈o.op.operands.toList→opd t' y=opd t y:=fun y hy=>qdD ha hy;unfold gOk;split
 ·rename_i args tys ho;split
  ·rename_i x y hxy;have h1:=hop x (by rw[ho];simp[Op.operands,Call.operands,hxy]);have h2:=hop y (by rw[ho];simp[Op.operands,Call.operands,hxy]);rw[h1,h2]
  ·exact qEk
 ·exact qEk
theorem qud {op:Op} {rd:List Nat} (h:isA op=true):qrU rd op=false:=by
 cases op <;> simp[isA]at h <;> rfl
theorem qpK {it:Itm} {o:Oper} {k:Nat} {v:AV} {u:Us} (ha:qdG ops o t (upd t k v)) (hd:o.dst≠some k) (hs:qdY P n ops it o ⟨upd t k v,h,u⟩ K) :
  qdY P n ops it o ⟨t,h,u⟩ (fun s'=>K ⟨upd s'.t k v,s'.h,s'.u⟩):=by
 unfold qdY at *
 split at hs
 ·rename_i hv;rw[if_pos hv];simp only[qes ha]at hs;split at hs
  ·rename_i p w he;simp only[he];refine⟨hs.1,hs.2.1,?_⟩;have:=hs.2.2;rw[qeI hd]at this;exact this
  ·cases hs
 ·rename_i hv;rw[if_neg hv];split at hs
  ·rename_i x args tys ho;have hop:∀ y,y∈o.op.operands.toList→opd (upd t k v) y=opd t y:=fun y hy=>qdD ha hy;rw[ho]at hop;have e1:opd (upd t k v) x=opd t x:=hop x (by simp[Op.operands,Call.operands]);have e2:args.toList.map (opd (upd t k v))=args.toList.map (opd t):=qEg fun y hy=>hop y (by simp[Op.operands,Call.operands];exact .inr (by simpa using hy));simp only[e1,e2]at hs;unfold qiW at *
   split at hs
   ·rename_i f cap hx;simp only[hx];obtain⟨h1,h2,hv,pl,argsC,L,R,h3,h4,h5⟩:=hs;refine⟨h1,h2,hv,pl,argsC,L,R,⟨h3.view,h3.mt,h3.nod,h3.obs,h3.keys,h3.liv⟩,h4,fun r L' hr=>?_⟩;obtain⟨φ,h6,h7,h8⟩:=h5 r L' hr;refine⟨φ,⟨h6.lone,h6.nod,h6.new,h6.unu,h6.kin,h6.sub⟩,h7,?_⟩;have e3:qad ⟨upd t k v,h,u⟩ pl φ o.dst r L'=⟨upd (qad ⟨t,h,u⟩ pl φ o.dst r L').t k v,(qad ⟨t,h,u⟩ pl φ o.dst r L').h,(qad ⟨t,h,u⟩ pl φ o.dst r L').u⟩:=by
     simp only[qad,qeI hd]
    rw[e3]at h8;exact h8
   ·cases hs
  ·refine⟨fun hm=>(qit ha).1 (hs.1 hm),?_⟩;have hs:=hs.2;rw[qv7 ha hd]at hs;unfold qhx qdT at *
   cases he:opS P o ⟨t,h,u⟩with
   | none=>simp[he]at hs
   | some r=>obtain⟨p,s'⟩:=r;simpa [he]using hs
theorem qoT {it:Itm} {o:Oper} {k:Nat} {v:AV} {u:Us} (ha:qdG ops o t (upd t k v)) (hd:o.dst≠some k) (hs:qaB P n ops it o ⟨upd t k v,h,u⟩ K) :
  qaB P n ops it o ⟨t,h,u⟩ (fun s'=>K ⟨upd s'.t k v,s'.h,s'.u⟩):=by
 unfold qaB at *
 simp only[qer ha]at hs;split at hs
 ·rename_i hf;simp only[hf];exact qpK ha hd hs
 ·rename_i hf;simp only[hf];refine⟨hs.1,?_⟩;have:=hs.2;rw[qeI hd]at this;exact this
 ·cases hs
theorem qmI {it:Itm} {o:Oper} {k:Option Nat} {v:AV} {u:Us} (ha:∀ d,k=some d→d ∉ o.looksAt ops) (hd:∀ d,k=some d→o.dst≠some d) (hs:qaB P n ops it o ⟨qcw t k v,h,u⟩ K) :
  qaB P n ops it o ⟨t,h,u⟩ (fun s'=>K ⟨qcw s'.t k v,s'.h,s'.u⟩):=by
 cases k with
 | none=>exact hs
 | some k=>exact qoT (fun i hi=>qau _ _ (by rintro rfl;exact ha _ rfl hi)) (hd k rfl) hs
theorem qvO {rd:List Nat} (hh:∀ id∈rd,h' id=h id):qqf rd h'=qqf rd h:=by
 funext id;unfold qqf
 by_cases hc:rd.contains id=true
 ·rw[if_pos hc,if_pos hc];exact hh id (by simpa using hc)
 ·rw[if_neg hc,if_neg hc]
theorem qBf {ii ij:Itm} {oi oj:Oper} (hv:isV oi.op=true) (hap:oi.apart ops oj=true) (hrd:∀ id∈ii.rd,id∈ij.av) (hs:qaB P n ops ii oi s (fun s1=>qaB P n ops ij oj s1 K)) :
  qaB P n ops ij oj s (fun s2=>qaB P n ops ii oi s2 K):=by
 obtain⟨h1,h2,h3⟩:=Oper.apart_spec hap;have hVY:∃ w,(match oi.dst with | some d=>d<n | none=>True)∧qaB P n ops ij oj ⟨qcw s.t oi.dst w,s.h,s.u⟩ K ∧
   ∀ s2:S,qdG ops oi s.t s2.t→(∀ id∈ii.rd,s2.h id=s.h id)→K ⟨qcw s2.t oi.dst w,s2.h,s2.u⟩→qaB P n ops ii oi s2 K:=by
  unfold qaB at hs;split at hs
  ·rename_i hf;unfold qdY at hs;rw[if_pos hv]at hs;split at hs
   ·rename_i p w he;refine⟨w,hs.2.1,hs.2.2,fun s2 ha hh hk=>?_⟩;unfold qaB;rw[qer ha,hf];unfold qdY;simp only[if_pos hv,qes ha,qvO hh,he];exact⟨hs.1,hs.2.1,hk⟩
   ·cases hs
  ·rename_i hf;refine⟨.tup [],hs.1,hs.2,fun s2 ha hh hk=>?_⟩;unfold qaB;rw[qer ha,hf];exact⟨hs.1,hk⟩
  ·cases hs
 obtain⟨w,hn,hj,hback⟩:=hVY;have:=qmJ (qmI (t:=s.t) (h:=s.h) (u:=s.u) (fun d hd=>h1 d hd) (fun d hd=>h2 d hd) hj);refine qcS (fun s2 hk=>?_) this;obtain⟨hk,hkt,hkh⟩:=hk;refine hback s2 (fun i hi=>hkt i fun hd=>h3 i hd hi) (fun id hid=>avOk_spec.1 hkh id (hrd id hid)) hk
theorem qpr (hm:∀ id o,h id=some o→h' id=some o) {ids:List Nat} {sz:Nat} {els:List (List AV)} {x:AV} (hv:qb5 h ids sz els x):qb5 h' ids sz els x:=by
 cases x <;> simp only[qb5]at hv ⊢ <;> try exact hv
 ·rename_i id e len;cases hid:h id with
  | none=>simp[hid]at hv
  | some o=>rw[hm _ _ hid];rw[hid]at hv;exact hv
 ·rename_i id e off esz m;cases hid:h id with
  | none=>simp[hid]at hv
  | some o=>rw[hm _ _ hid];rw[hid]at hv;exact hv
 ·rename_i id e len cap;cases hid:h id with
  | none=>simp[hid]at hv
  | some o=>rw[hm _ _ hid];rw[hid]at hv;exact hv
mutual
theorem qsE (hm:∀ id o,h id=some o→h' id=some o) {ids:List Nat} {ρ:Nat→Option Plc}:∀ {a x:AV},mtA h ids ρ a x→mtA h' ids ρ a x
 | .lst sz els,x,hv=>by simp only[mtA]at hv ⊢;exact qpr hm hv
 | .agg cs,x,hv=>by
  cases x <;> simp only[mtA]at hv ⊢;exact qeh hm hv
 | .tup cs,x,hv=>by
  cases x <;> simp only[mtA]at hv ⊢;exact qeh hm hv
 | .fn f cs,x,hv=>by
  cases x <;> simp only[mtA]at hv ⊢;exact⟨hv.1,qeh hm hv.2⟩
 | .top,x,hv=>by simp only[mtA]at hv ⊢
 | .ptr _ _ _,x,hv=>by simp only[mtA]at hv ⊢;exact hv
 | .sl _ _ _,x,hv=>by simp only[mtA]at hv ⊢;exact hv
 | .slc _ _ _ _,x,hv=>by simp only[mtA]at hv ⊢;exact hv
 | .bsl _ _ _ _ _,x,hv=>by simp only[mtA]at hv ⊢;exact hv
 | .int _ _,x,hv=>by simp only[mtA]at hv ⊢;exact hv
 | .bool _,x,hv=>by simp only[mtA]at hv ⊢;exact hv
 | .str _,x,hv=>by simp only[mtA]at hv ⊢;exact hv
 | .nilp,x,hv=>by simp only[mtA]at hv ⊢;exact hv
 | .nils,x,hv=>by simp only[mtA]at hv ⊢;exact hv
 | .nili,x,hv=>by simp only[mtA]at hv ⊢;exact hv
 | .ifc,x,hv=>by simp only[mtA]at hv ⊢;exact hv
 | .anyb,x,hv=>by simp only[mtA]at hv ⊢;exact hv
 | .elm _,x,hv=>by simp only[mtA]at hv ⊢;exact hv
theorem qeh (hm:∀ id o,h id=some o→h' id=some o) {ids:List Nat} {ρ:Nat→Option Plc}:∀ {as xs:List AV},mtL h ids ρ as xs→mtL h' ids ρ as xs
 | [],xs,hv=>by simp only[mtL]at hv ⊢;exact hv
 | a::r,[],hv=>by simp only[mtL]at hv
 | a::r,x::xs,hv=>by simp only[mtL]at hv ⊢;exact⟨qsE hm hv.1,qeh hm hv.2⟩
end
theorem qjp (hm:∀ id o,h id=some o→h' id=some o) {hv hv':Hp} (hmv:∀ id o,hv id=some o→hv' id=some o) {ids:List Nat} {ρ:Nat→Option Plc} {o:Ob} {p:Plc} (hi:qoO hv h ids ρ o p):qoO hv' h' ids ρ o p:=by
 cases p with
 | whole id =>
  obtain⟨O,h1,h2,h3⟩:=hi;refine⟨O,hm _ _ h1,h2,?_⟩;rcases h3 with h3 | ⟨cs,ds,e1,e2,h3⟩
  ·exact .inl h3
  ·exact .inr ⟨cs,ds,e1,e2,qeh hmv h3⟩
 | sub id e0 o0 m =>
  obtain⟨O,cs,h1,h2,h3,h4,h5,h6,h7⟩:=hi;exact⟨O,cs,hm _ _ h1,h2,h3,h4,h5,h6,qeh hmv h7⟩
theorem qjZ {d:Nat} {ob:Ob}:∀ {pl:List (Nat×Plc)},(∀ x∈pl,x.2.id≠d)→qmf (upd h d (some ob)) pl=upd (qmf h pl) d (some ob)
 | [],_=>rfl
 | (c,.whole id)::r,hd=>by
  simp only[qmf];rw[qjZ fun x hx=>hd x (qEZ _ hx)];have:id≠d:=hd (c,.whole id) (by simp);exact qcq _ _ _ (qDn this)
 | (c,.sub _ _ _ _)::r,hd=>by
  simp only[qmf];exact qjZ fun x hx=>hd x (qEZ _ hx)
theorem qnF {h0:Hp} {d:Nat} {ob:Ob} {ρ:Nat→Option Plc} (hρ:∀ c p,ρ c=some p→p.id≠d):∀ {L:List (Nat×Ob)} {h:Hp},qnG (upd h0 d (some ob)) ρ (upd h d (some ob)) L=upd (qnG h0 ρ h L) d (some ob)
 | [],_=>rfl
 | (c,o)::r,h=>by
  simp only[qnG,qqt];rw[qnF hρ];cases hc:ρ c with
  | none=>rfl
  | some p =>
   have hp:=hρ c p hc;cases p with
   | whole id=>exact qcq _ _ _ (qDn hp)
   | sub id e0 o0 m =>
    simp only;have:(upd h0 d (some ob)) id=h0 id:=qau _ _ hp;rw[this];cases h0 id with
    | none=>rfl
    | some O=>exact qcq _ _ _ (qDn hp)
theorem qvW {pl:List (Nat×Plc)} {φ:List (Nat×Nat)} {c:Nat} {p:Plc} (hp:qgg pl φ c=some p):p.id∈pl.map (·.2.id)∨p.id∈φ.map (·.2):=by
 unfold qgg at hp;split at hp
 ·rename_i q hq;injection hp with hp;subst hp;exact .inl (qD6.2 ⟨_,qbD hq,rfl⟩)
 ·split at hp
  ·rename_i id hq;injection hp with hp;subst hp;exact .inr (qD6.2 ⟨_,qe6 hq,rfl⟩)
  ·cases hp
theorem qsH {op:Op} (h:isA op=true):isV op=false∧(∀ c,op≠.call c):=by
 cases op <;> simp[isA]at h <;> simp[isV]
theorem S.eqs {a b:S} (h1:a.t=b.t) (h2:a.h=b.h) (h3:a.u=b.u):a=b:=by
 cases a;cases b;simp only at h1 h2 h3;subst h1;subst h2;subst h3;rfl
theorem qBh {ii ij:Itm} {oi oj:Oper} (hF:isF oi.op=true) (hA:isA oj.op=true) (hg:oj.guard=none) (hap:oi.apart ops oj=true) (hok:aOk P oj s) (hdn:∀ d,oj.dst=some d→d<n) (hav:∀ d,oj.dst=some d→d ∉ ij.av)
  (hs:qaB P n ops ii oi s (fun s1=>qaB P n ops ij oj s1 K)):qaB P n ops ij oj s (fun s2=>qaB P n ops ii oi s2 K):=by
 obtain⟨h1,h2,h3⟩:=Oper.apart_spec hap;obtain⟨hok1,hok2⟩:=hok;cases he:opS P oj s with
 | none=>rw[he]at hok1;exact hok1.elim
 | some r =>
 obtain⟨q,s'⟩:=r;rw[he]at hok1;simp only at hok1;obtain⟨d,sz,els,v,q0,hd,rfl,hq,hall⟩:=qoK hA he;rw[hd]at hok2;simp only at hok2;have hfj:∀ t,qfD ops oj t=some true:=fun t=>by unfold qfD;rw[hg]
 have hnv:=qsH hA;have mk:∀ (s2:S) (K2:S→Prop),qaB P n ops ij oj s2 K2↔qhx n oj.dst (opS P oj s2) (fun s'=>qhc ij.av s2.h s'.h∧K2 s'):=fun s2 K2=>by
  unfold qaB;rw[hfj];unfold qdY;rw[if_neg (by rw[hnv.1];simp)];simp only;split
  ·rename_i x args tys ho;exact absurd ho (hnv.2 _)
  ·rw[qud hA];exact⟨fun h=>h.2,fun h=>⟨fun h=>(by cases h),h⟩⟩
 have mk2:∀ (s2:S) (K2:S→Prop),qdG ops oj s.t s2.t→qaB P n ops ij oj s2 K2→d ∉ s2.u∧K2 (qbh d s2 sz els v):=fun s2 K2 ha hk=>by
  obtain⟨p2,e2,hp2⟩:=hall s2 ha;rw[mk,e2]at hk;unfold qhx at hk;exact⟨(hp2.1 hk.1).1,hk.2.2.2⟩
 have havs:∀ (hh:Hp) (ob:Ob),qhc ij.av hh (upd hh d (some ob)):=fun hh ob=>avOk_spec.2 fun id hid=>qau _ _ (by rintro rfl;exact hav _ hd hid);rw[mk,he];unfold qhx;refine⟨hok1,by rw[hd];exact hdn d hd,havs _ _,?_⟩;have hagi:qdG ops oi s.t (upd s.t d v):=fun i hi=>qau _ _ (by rintro rfl;exact h3 _ hd hi);have hdi:oi.dst≠some d:=fun e=>h2 d e hd;unfold qaB at hs ⊢;have hfi:qfD ops oi (qbh d s sz els v).t=qfD ops oi s.t:=qer hagi;rw[hfi];split at hs
 ·rename_i hf;show _;unfold qdY at hs ⊢;have hvi:¬ isV oi.op=true:=by
   cases hoi:oi.op <;> rw[hoi]at hF <;> simp[isF]at hF ⊢ <;> try (simp[isV];done)
   rename_i c;obtain⟨callee,args,tys⟩:=c;cases callee <;> simp[isF]at hF;simp[isV]
  rw[if_neg hvi]at hs ⊢;split at hs
  ·rename_i x args tys ho;show _;have hop:∀ y,y∈oi.op.operands.toList→opd (upd s.t d v) y=opd s.t y:=fun y hy=>qdD hagi hy;rw[ho]at hop;have e1:opd (qbh d s sz els v).t x=opd s.t x:=hop x (by simp[Op.operands,Call.operands]);have e2:args.toList.map (opd (qbh d s sz els v).t)=args.toList.map (opd s.t):=qEg fun y hy=>hop y (by simp[Op.operands,Call.operands];exact .inr (by simpa using hy));rw[e1,e2];unfold qiW at hs ⊢;split at hs
   ·rename_i f cap hx;show _;obtain⟨g1,g2,hv,pl,argsC,L,R,hin,hC,hR⟩:=hs;have hmore:∀ id o,s.h id=some o→(upd s.h d (some ⟨sz,els⟩)) id=some o:=fun id o ho=>by
     rw[qau _ _ (by rintro rfl;rw[hok2]at ho;cases ho)];exact ho
    have hpd:∀ x∈pl,x.2.id≠d:=fun x hx e=>by
     have:=hin.liv x hx;rw[e,hok2]at this;simp at this
    have hin':∃ hv',CallIn (qbh d s sz els v) hv' pl (args.toList.map (opd s.t)++cap) argsC L∧(hv=(fun _=>none)→hv'=fun _=>none):=by
     have hliv:∀ x,x∈pl→((qbh d s sz els v).h x.2.id).isSome=true:=fun x hx=>by
      show((upd s.h d (some ⟨sz,els⟩)) x.2.id).isSome=true;rw[qau _ _ (hpd x hx)];exact hin.liv x hx
     by_cases hnone:hv=fun _=>none
     ·exact⟨hv,⟨.inr hnone,hin.mt,hin.nod,fun x hx=>(hin.obs x hx).imp fun p hp=>⟨hp.1,qjp hmore (fun _ _ h=>h) hp.2⟩,hin.keys,hliv⟩,fun h=>h⟩
     ·have hvs:hv=s.h:=hin.view.resolve_right hnone;subst hvs;exact⟨upd s.h d (some ⟨sz,els⟩),⟨.inl rfl,qeh hmore hin.mt,hin.nod,fun x hx=>(hin.obs x hx).imp fun p hp=>⟨hp.1,qjp hmore hmore hp.2⟩,hin.keys,hliv⟩,fun h=>absurd h hnone⟩
    obtain⟨hv',hin',hvn⟩:=hin';refine⟨g1,g2,hv',pl,argsC,L,R,hin',hC,fun r L' hr=>?_⟩;obtain⟨φ,hco,hav1,hj⟩:=hR r L' hr;have hagj:qdG ops oj s.t (qad s pl φ oi.dst r L').t:=fun i hi=>qgr (fun e=>h1 i e hi);obtain⟨hdu,hK⟩:=mk2 _ _ hagj hj;have hdφ:d ∉ φ.map (·.2):=fun hm=>hdu (.inl hm);have hρd:∀ c p,qgg pl φ c=some p→p.id≠d:=fun c p hp e=>by
     rcases qvW hp with hm | hm
     ·obtain⟨x,hx,hxe⟩:=qD6.1 hm;exact hpd x hx (hxe.trans e)
     ·rw[e]at hm;exact hdφ hm
    have hh:(qad (qbh d s sz els v) pl φ oi.dst r L').h=upd (qad s pl φ oi.dst r L').h d (some ⟨sz,els⟩):=by
     simp only[qad,qbh];rw[qjZ hpd,qnF hρd]
    have hst:qad (qbh d s sz els v) pl φ oi.dst r L'=qbh d (qad s pl φ oi.dst r L') sz els v:=by
     have ht:(qad (qbh d s sz els v) pl φ oi.dst r L').t=upd (qad s pl φ oi.dst r L').t d v:=by
      simp only[qad,qbh,qeI hdi]
     have hu:(qad (qbh d s sz els v) pl φ oi.dst r L').u=Us.cons d (qad s pl φ oi.dst r L').u:=by
      simp only[qad,qbh,Us.cons_app]
     exact S.eqs ht hh hu
    refine⟨φ,⟨?_,hco.nod,hco.new,fun x hx=>?_,hco.kin,hco.sub⟩,?_,?_⟩
    ·exact hco.lone.imp hvn id
    ·rintro(e | e)
     ·exact hdφ (e ▸ qD6.2 ⟨x,hx,rfl⟩)
     ·exact hco.unu x hx e
    ·rw[hh];refine avOk_spec.2 fun id hid=>?_;by_cases e:id=d
     ·subst e;rw[qar];exact(qar _ _ _).symm
     ·rw[qau _ _ e];show _=upd s.h d (some ⟨sz,els⟩) id;rw[qau _ _ e];exact avOk_spec.1 hav1 id hid
    ·rw[hst];exact hK
   ·cases hs
  ·rename_i hne;exfalso;cases hoi:oi.op <;> rw[hoi]at hF <;> simp[isF]at hF;rename_i c;obtain⟨callee,args,tys⟩:=c;cases callee <;> simp[isF]at hF;exact hne _ _ _ hoi
 ·rename_i hf;show _;refine⟨hs.1,?_⟩;have hagj:qdG ops oj s.t (qcw s.t oi.dst (.tup [])):=fun i hi=>qgr (fun e=>h1 i e hi);obtain⟨_,hK⟩:=mk2 _ _ hagj hs.2;have:(⟨qcw (qbh d s sz els v).t oi.dst (.tup []),(qbh d s sz els v).h,(qbh d s sz els v).u⟩:S)=qbh d ⟨qcw s.t oi.dst (.tup []),s.h,s.u⟩ sz els v:=by
   simp only[qbh,qeI hdi]
  rw[this];exact hK
 ·cases hs
end
end Go.Av
namespace Go.Av
abbrev zI(n:Nat):Itm:=⟨n,[],[],[],[]⟩
abbrev zJ(n:Nat)(a b:List Nat):Itm:=⟨n,a,b,[],[]⟩
end Go.Av
end
section
namespace Go.Av
open Go.RowKit
section
variable {P:Program} {n:Nat} {ops:Array Oper} {s:S} {K K':S→Prop}
theorem mkN {it:Itm} {o:Oper} (hA:isA o.op=true) (hg:o.guard=none):qaB P n ops it o s K↔qhx n o.dst (opS P o s) (fun s'=>qhc it.av s.h s'.h∧K s'):=by
 have hf:qfD ops o s.t=some true:=by unfold qfD;rw[hg]
 have hnv:=qsH hA;unfold qaB;rw[hf];unfold qdY;rw[if_neg (by rw[hnv.1];simp)];simp only;split
 ·rename_i x args tys ho;exact absurd ho (hnv.2 _)
 ·rw[qud hA];exact⟨fun h=>h.2,fun h=>⟨fun h=>(by cases h),h⟩⟩
theorem qBi {ii ij:Itm} {oi oj:Oper} (hA1:isA oi.op=true) (hg1:oi.guard=none) (hA:isA oj.op=true) (hg:oj.guard=none) (hap:oi.apart ops oj=true) (hav1:∀ d,oi.dst=some d→d ∉ ii.av) (hav:∀ d,oj.dst=some d→d ∉ ij.av)
  (hs:qaB P n ops ii oi s (fun s1=>qaB P n ops ij oj s1 K)):qaB P n ops ij oj s (fun s2=>qaB P n ops ii oi s2 K):=by
 obtain⟨h1,h2,h3⟩:=Oper.apart_spec hap;rw[mkN hA1 hg1]at hs;unfold qhx at hs;split at hs
 ·rename_i p1 s1 he1;obtain⟨hp1,hd1,_,hj⟩:=hs;obtain⟨d1,sz1,els1,v1,q1,hdd1,rfl,hq1,hall1⟩:=qoK (ops:=ops) hA1 he1;rw[mkN hA hg]at hj;unfold qhx at hj;split at hj
  ·rename_i p2 s2 he2;obtain⟨hp2,hd2,_,hK⟩:=hj;obtain⟨d2,sz2,els2,v2,q2,hdd2,rfl,hq2,hall2⟩:=qoK (ops:=ops) hA he2;have hne:d1≠d2:=fun e=>h2 d1 hdd1 (by rw[hdd2,e]);have ha2:qdG ops oj (qbh d1 s sz1 els1 v1).t s.t:=fun i hi=>(qau _ _ (by rintro rfl;exact h1 _ hdd1 hi)).symm;obtain⟨p2',e2',hq2'⟩:=hall2 s ha2;have hq2v:=hq2.1 hp2;have hd2u:d2 ∉ s.u:=fun h=>hq2v.1 (.inr h);rw[mkN hA hg,e2'];unfold qhx;refine⟨hq2'.2 ⟨hd2u,hq2v.2⟩,hd2,avOk_spec.2 fun id hid=>qau _ _ (by rintro rfl;exact hav _ hdd2 hid),?_⟩;have ha1:qdG ops oi s.t (qbh d2 s sz2 els2 v2).t:=fun i hi=>qau _ _ (by rintro rfl;exact h3 _ hdd2 hi);obtain⟨p1',e1',hq1'⟩:=hall1 _ ha1;rw[mkN hA1 hg1,e1'];unfold qhx;have hd1u:d1 ∉ (qbh d2 s sz2 els2 v2).u:=fun h=>h.elim (fun e=>hne e) (hq1.1 hp1).1;refine⟨hq1'.2 ⟨hd1u,(hq1.1 hp1).2⟩,hd1,avOk_spec.2 fun id hid=>qau _ _ (by rintro rfl;exact hav1 _ hdd1 hid),?_⟩;have:qbh d1 (qbh d2 s sz2 els2 v2) sz1 els1 v1=qbh d2 (qbh d1 s sz1 els1 v1) sz2 els2 v2:=by
    simp only[qbh,qcq _ _ _ hne,Us.cons_cons (d:=d1)]
   rw[this];exact hK
  ·cases hj
 ·cases hs
def isN (rd:List Nat) (op:Op):Bool:=isA op || qrU rd op
def rmC (c:List Nat) (h:Hp):Hp:=fun i=>if c.contains i then none else h i
def nw (d:Nat) (ob:Ob) (v:AV) (c:List Nat) (s:S):S:=⟨upd s.t d v,upd (rmC c s.h) d (some ob),Us.cons d s.u⟩
theorem qqm (h:Hp):rmC [] h=h:=by funext i;simp[rmC]
theorem qql (id:Nat) (h:Hp):rmC [id] h=upd h id none:=by
 funext i
 unfold rmC upd;by_cases e:i=id <;> simp[e]
theorem qyV {o:Oper} {rd:List Nat} (hN:isN rd o.op=true) (hg:qrU rd o.op=true→gOk rd o.op s.t) {p:Prop} {s':S} (he:opS P o s=some (p,s')):∃ (d:Nat) (ob:Ob) (v:AV) (q0:Prop) (c:List Nat),o.dst=some d ∧
  (∀ id∈c,id∈rd.drop 1∧(s.h id).isSome=true)∧s'=nw d ob v c s∧(p↔d ∉ s.u∧q0) ∧
  ∀ s2:S,qdG ops o s.t s2.t→(∀ id∈c,s2.h id=s.h id)→∃ p2,opS P o s2=some (p2,nw d ob v c s2)∧(p2↔d ∉ s2.u∧q0):=by
 unfold isN at hN;simp only[qFb]at hN;rcases hN with hA | hG
 ·obtain⟨d,sz,els,v,q0,hd,rfl,hq,hall⟩:=qoK (ops:=ops) hA he;refine⟨d,⟨sz,els⟩,v,q0,[],hd,by simp,by simp only[nw,qqm];rfl,hq,fun s2 ha _=>?_⟩;obtain⟨p2,e2,h2⟩:=hall s2 ha;exact⟨p2,by simp only[nw,qqm];exact e2,h2⟩
 ·have hgk:=hg hG;obtain⟨dst,op,ty,pos,after,guard⟩:=o;have hop:∀ {s2:S},qdG ops ⟨dst,op,ty,pos,after,guard⟩ s.t s2.t→∀ x,x∈op.operands.toList→opd s2.t x=opd s.t x:=fun ha x hx=>qdD ha hx;simp only at hgk hG he ⊢;unfold gOk at hgk;split at hgk
  ·rename_i args tys;split at hgk
   ·rename_i x y hxy;obtain⟨g1,g2⟩:=hgk;have hop2:∀ {s2:S},qdG ops ⟨dst,.call ⟨.builtin .append,args,tys⟩,ty,pos,after,guard⟩ s.t s2.t→opd s2.t x=opd s.t x∧opd s2.t y=opd s.t y:=fun ha=>⟨hop ha x (by simp[Op.operands,Call.operands,hxy]),hop ha y (by simp[Op.operands,Call.operands,hxy])⟩;cases dst with
    | none=>simp only[opS]at he;cases he
    | some d =>
     simp only[opS,hxy]at he ⊢;split at he
     ·rename_i a b t1 t2 hab htt;injection hab with hab1 hab2;injection hab2 with hab2 _;subst hab1;subst hab2;cases hx:opd s.t x with
      | sl id e0 len =>
       rw[hx]at g1 he;simp only at g1;cases hy:opd s.t y with
       | lst sz els =>
        rw[hy]at he;have hev:∀ (s2:S),qfh P s2 d t1 t2 (.sl id e0 len) (.lst sz els)=qb3 P s2 d t1 t2 (.sl id e0 len) (.lst sz els):=fun _=>rfl;rw[hev]at he;unfold qb3 at he;split at he
        ·rename_i e _ _ _ _ _ _ _ hT1 hT2;split at he
         ·rename_i ie q sz2 ys hE hS;simp only at he;split at he
          ·rename_i o ho;simp only[qDs,qDt]at he;obtain⟨rfl,rfl⟩:=he;refine⟨d,⟨ie.size,(o.els.drop e0).take len++ys⟩,.sl d 0 (len+ys.length),_,[id],rfl,fun i hi=>?_,by simp only[nw,qql],qEk,fun s2 ha hh=>⟨_,?_,qEk⟩⟩
           ·simp only[qE3,qFc,or_false]at hi;subst hi;exact⟨by simpa using g1,by rw[ho];rfl⟩
           ·obtain⟨ex,ey⟩:=hop2 ha;have hS2:qaY s2.h (.lst sz els)=qaY s.h (.lst sz els):=rfl;simp only[htt,ex,ey,hx,hy,hev];simp only[qb3,hT1,hT2,hE,hS2,hS,hh id (by simp),ho,nw,qql]
          ·cases he
         ·cases he
        ·cases he
       | _=>rw[hy]at g2;exact g2.elim
      | _=>rw[hx]at g1;exact g1.elim
     ·cases he
   ·exact hgk.elim
  ·rename_i hne;exfalso;have:isG op=false:=by
    unfold isG;split
    ·exact(hne _ _ rfl).elim
    ·rfl
   unfold qrU at hG;rw[this]at hG;cases hG
theorem qt6 {rd:List Nat} {op:Op} (h:isN rd op=true):isV op=false∧∀ x args tys,op≠.call ⟨.value x,args,tys⟩:=by
 unfold isN at h;simp only[qFb]at h;rcases h with h | h
 ·exact⟨(qsH h).1,fun _ _ _=>(qsH h).2 _⟩
 ·unfold qrU isG at h;simp only[Bool.and_eq_true]at h;have:=h.1;split at this
  ·exact⟨rfl,fun _ _ _ h=>by cases h⟩
  ·cases this
theorem qAD {it:Itm} {o:Oper} (hN:isN it.rd o.op=true) (hg:o.guard=none):qaB P n ops it o s K↔(qrU it.rd o.op=true→gOk it.rd o.op s.t)∧qhx n o.dst (opS P o s) (fun s'=>qhc it.av s.h s'.h∧K s'):=by
 have hf:qfD ops o s.t=some true:=by unfold qfD;rw[hg]
 have hnv:=qt6 hN;unfold qaB;rw[hf];unfold qdY;rw[if_neg (by rw[hnv.1];simp)];simp only;split
 ·rename_i x args tys ho;exact absurd ho (hnv.2 _ _ _)
 ·exact qEk
def NN (n:Nat) (it:Itm) (o:Oper):Prop:=isN it.rd o.op=true∧o.guard=none∧(∀ d,o.dst=some d→d<n∧d ∉ it.av)∧∀ id∈it.rd.drop 1,id ∉ it.av
theorem qxZ {ii ij:Itm} {oi oj:Oper} (hi:NN n ii oi) (hj:NN n ij oj) (hap:oi.apart ops oj=true) (hdi:∀ d,oi.dst=some d→d ∉ ij.rd.drop 1) (hdj:∀ d,oj.dst=some d→d ∉ ii.rd.drop 1) (hrr:∀ id∈ii.rd.drop 1,id ∉ ij.rd.drop 1)
  (hs:qaB P n ops ii oi s (fun s1=>qaB P n ops ij oj s1 K)):qaB P n ops ij oj s (fun s2=>qaB P n ops ii oi s2 K):=by
 obtain⟨h1,h2,h3⟩:=Oper.apart_spec hap;obtain⟨hN1,hg1,ha1,hr1⟩:=hi;obtain⟨hN2,hg2,ha2,hr2⟩:=hj;rw[qAD hN1 hg1]at hs;obtain⟨hk1,hs⟩:=hs;unfold qhx at hs;split at hs
 ·rename_i p1 s1 he1;obtain⟨hp1,hd1,_,hjj⟩:=hs;obtain⟨d1,ob1,v1,q1,c1,hdd1,hc1,rfl,hq1,hall1⟩:=qyV (ops:=ops) hN1 hk1 he1;rw[qAD hN2 hg2]at hjj;obtain⟨hk2,hjj⟩:=hjj;unfold qhx at hjj;split at hjj
  ·rename_i p2 s2 he2;obtain⟨hp2,hd2,_,hK⟩:=hjj;obtain⟨d2,ob2,v2,q2,c2,hdd2,hc2,rfl,hq2,hall2⟩:=qyV (ops:=ops) hN2 hk2 he2;have hne:d1≠d2:=fun e=>h2 d1 hdd1 (by rw[hdd2,e]);have n1:∀ id∈c2,id≠d1:=fun id hid=>by rintro rfl;exact hdi _ hdd1 (hc2 id hid).1
   have n2:∀ id∈c1,id≠d2:=fun id hid=>by rintro rfl;exact hdj _ hdd2 (hc1 id hid).1
   have n3:∀ id∈c1,id ∉ c2:=fun id hid h=>hrr id (hc1 id hid).1 (hc2 id h).1;have hh2:∀ id∈c2,s.h id=(nw d1 ob1 v1 c1 s).h id:=fun id hid=>by
    show _=upd (rmC c1 s.h) d1 (some ob1) id;rw[qau _ _ (n1 id hid)];unfold rmC;rw[if_neg (by simpa using fun h=>n3 id h hid)]
   have agr2:qdG ops oj (nw d1 ob1 v1 c1 s).t s.t:=fun i hi=>(qau _ _ (by rintro rfl;exact h1 _ hdd1 hi)).symm;obtain⟨p2',e2',hq2'⟩:=hall2 s agr2 hh2;have hq2v:=hq2.1 hp2;have hd2u:d2 ∉ s.u:=fun h=>hq2v.1 (.inr h);rw[qAD hN2 hg2,e2'];refine⟨fun hm=>(qit (ops:=ops) agr2).2 (hk2 hm),?_⟩;unfold qhx;have av2:qhc ij.av s.h (nw d2 ob2 v2 c2 s).h:=avOk_spec.2 fun id hid=>by
    show upd (rmC c2 s.h) d2 (some ob2) id=_;rw[qau _ _ (by rintro rfl;exact(ha2 _ hdd2).2 hid)];unfold rmC;rw[if_neg (by simpa using fun h=>hr2 id (hc2 id h).1 hid)]
   refine⟨hq2'.2 ⟨hd2u,hq2v.2⟩,hd2,av2,?_⟩;have agr1:qdG ops oi s.t (nw d2 ob2 v2 c2 s).t:=fun i hi=>qau _ _ (by rintro rfl;exact h3 _ hdd2 hi);have hh1:∀ id∈c1,(nw d2 ob2 v2 c2 s).h id=s.h id:=fun id hid=>by
    show upd (rmC c2 s.h) d2 (some ob2) id=_;rw[qau _ _ (n2 id hid)];unfold rmC;rw[if_neg (by simpa using n3 id hid)]
   obtain⟨p1',e1',hq1'⟩:=hall1 _ agr1 hh1;rw[qAD hN1 hg1,e1'];refine⟨fun hm=>(qit (ops:=ops) agr1).2 (hk1 hm),?_⟩;unfold qhx;have hd1u:d1 ∉ (nw d2 ob2 v2 c2 s).u:=fun h=>h.elim (fun e=>hne e) (hq1.1 hp1).1;refine⟨hq1'.2 ⟨hd1u,(hq1.1 hp1).2⟩,hd1,avOk_spec.2 fun id hid=>?_,?_⟩
   ·show upd (rmC c1 _) d1 (some ob1) id=_;rw[qau _ _ (by rintro rfl;exact(ha1 _ hdd1).2 hid)];unfold rmC;rw[if_neg (by simpa using fun h=>hr1 id (hc1 id h).1 hid)]
   ·have:nw d1 ob1 v1 c1 (nw d2 ob2 v2 c2 s)=nw d2 ob2 v2 c2 (nw d1 ob1 v1 c1 s):=by
     refine S.eqs ?_ ?_ ?_
     ·simp only[nw,qcq _ _ _ hne]
     ·funext i
      simp only[nw,upd,rmC];by_cases e1:i=d1
      ·subst e1;have:i≠d2:=hne;have:¬ c2.contains i=true:=by simpa using fun h=>n1 i h rfl
       simp_all
      ·by_cases e2:i=d2
       ·subst e2;have:¬ c1.contains i=true:=by simpa using fun h=>n2 i h rfl
        simp_all
       ·simp only[e1,e2,if_false];by_cases e3:i∈c1 <;> by_cases e4:i∈c2 <;> simp[e3,e4]
     ·simp only[nw,Us.cons_cons (d:=d1)]
    rw[this];exact hK
  ·cases hjj
 ·cases hs
theorem qtx {ij:Itm} {oj:Oper} (hA:isA oj.op=true) (hg:oj.guard=none) (hs:qaB P n ops ij oj s K):
  qaB P n ops ij oj s (fun s2=>K s2∧∀ o',isA o'.op=true→oj.apart ops o'=true→aOk P o' s→aOk P o' s2):=by
 rw[mkN hA hg]at hs ⊢;refine qfU (fun p s2 he hk=>⟨hk.1,hk.2,fun o' hA' hap hok=>?_⟩) hs;obtain⟨h1,h2,h3⟩:=Oper.apart_spec hap;obtain⟨d,sz,els,v,q,hd,rfl,hq,_⟩:=qoK (ops:=ops) hA he;obtain⟨hok1,hok2⟩:=hok;cases he':opS P o' s with
 | none=>rw[he']at hok1;exact hok1.elim
 | some r =>
  obtain⟨p',s'⟩:=r;rw[he']at hok1;simp only at hok1;obtain⟨d',sz',els',v',q',hd',rfl,hq',hall'⟩:=qoK (ops:=ops) hA' he';obtain⟨p2,e2,hp2⟩:=hall' (qbh d s sz els v) (fun i hi=>qau _ _ (by rintro rfl;exact h1 _ hd hi));have hne:d'≠d:=fun e=>h2 d hd (by rw[hd',e]);refine⟨?_,?_⟩
  ·rw[e2];exact hp2.2 ⟨fun h=>h.elim hne (hq'.1 hok1).1,(hq'.1 hok1).2⟩
  ·rw[hd']at hok2 ⊢;simp only at hok2 ⊢;show upd s.h d _ d'=none;rw[qau _ _ hne];exact hok2
def opN (P:Program) (n:Nat) (ops:Array Oper) (ann:Nat→Itm) (i:Nat) (K:S→Prop) (s:S):Prop :=
 match ops[i]? with
 | none=>K s
 | some o=>qaB P n ops (ann i) o s K
def qgX (P:Program) (n:Nat) (ops:Array Oper) (ann:Nat→Itm) (Q:S→Prop):Nat→Array Bool→S→Prop
 | 0,listed,s=>Region.ready .any ops listed=[]∧Q s
 | fuel+1,listed,s=>(Region.ready .any ops listed=[]→Q s)∧∀ i∈Region.ready .any ops listed,opN P n ops ann i (qgX P n ops ann Q fuel (listed.setIfInBounds i true)) s
def Cm (n:Nat) (ops:Array Oper) (ii ij:Itm) (oi oj:Oper):Prop :=
 oi.apart ops oj=true∧((isV oi.op=true∧∀ id∈ii.rd,id∈ij.av)∨(isF oi.op=true∧isA oj.op=true∧oj.guard=none∧(∀ d,oj.dst=some d→d<n∧d ∉ ij.av)) ∨
  (isA oi.op=true∧oi.guard=none∧(∀ d,oi.dst=some d→d ∉ ii.av)∧isA oj.op=true∧oj.guard=none∧(∀ d,oj.dst=some d→d<n∧d ∉ ij.av)) ∨
  (NN n ii oi∧NN n ij oj∧(∀ d,oi.dst=some d→d ∉ ij.rd.drop 1)∧(∀ d,oj.dst=some d→d ∉ ii.rd.drop 1)∧∀ id∈ii.rd.drop 1,id ∉ ij.rd.drop 1))
theorem qzl {rd:List Nat} {op:Op} (h:isN rd op=true):isF op=false:=by
 have:=qt6 h;cases op <;> try rfl
 rename_i c;obtain⟨callee,args,tys⟩:=c;cases callee <;> try rfl
 exact absurd rfl (this.2 _ _ _)
theorem qBg {ii ij:Itm} {oi oj:Oper} (hc:Cm n ops ii ij oi oj) (hok:isF oi.op=true→aOk P oj s) (hs:qaB P n ops ii oi s (fun s1=>qaB P n ops ij oj s1 K)) :
  qaB P n ops ij oj s (fun s2=>qaB P n ops ii oi s2 K):=by
 obtain⟨hap,hV | hF | hA | hN⟩:=hc
 ·exact qBf hV.1 hap hV.2 hs
 ·exact qBh hF.1 hF.2.1 hF.2.2.1 hap (hok hF.1) (fun d hd=>(hF.2.2.2 d hd).1) (fun d hd=>(hF.2.2.2 d hd).2) hs
 ·exact qBi hA.1 hA.2.1 hA.2.2.2.1 hA.2.2.2.2.1 hap hA.2.2.1 (fun d hd=>(hA.2.2.2.2.2 d hd).2) hs
 ·exact qxZ hN.1 hN.2.1 hap hN.2.2.1 hN.2.2.2.1 hN.2.2.2.2 hs
theorem qkT {ann:Nat→Itm} {Q:S→Prop} {i:Nat} {oi:Oper} (hi:ops[i]?=some oi) (B:List Nat) (hBw:∀ b∈B,∀ ob,ops[b]?=some ob→∃ e∈ob.after,Region.binds .any e=true∧(e.on=i∨e.on∈B)) :
  ∀ (fuel:Nat) (listed:Array Bool) (U:List Nat) (s:S),U.length≤fuel→(∀ j,j∈Region.ready .any ops listed→j≠i→j∈U)→(∀ j,j<ops.size→listed.getD j true=false→j≠i→j∈U)→(∀ b∈B,listed.getD b true=false) →
   (∀ j oj,ops[j]?=some oj→j≠i→listed.getD j true=false→j ∉ B→Cm n ops (ann i) (ann j) oi oj∧(isF oi.op=true→aOk P oj s)) →
   (isF oi.op=true→∀ j j' oj oj',ops[j]?=some oj→ops[j']?=some oj'→j≠j'→j≠i→j'≠i→listed.getD j true=false→listed.getD j' true=false→j ∉ B→j' ∉ B→oj.apart ops oj'=true) →
   i∈Region.ready .any ops listed→opN P n ops ann i (qgX P n ops ann Q fuel (listed.setIfInBounds i true)) s→qgX P n ops ann Q (fuel+1) listed s:=by
 intro fuel
 induction fuel with
 | zero =>
  intro listed U s hU hr hu hB hc hAA hir H;refine⟨fun h=>(by rw[h]at hir;cases hir),fun j hj=>?_⟩;by_cases hji:j=i
  ·subst hji;exact H
  ·have:=hr j hj hji;have:U=[]:=List.length_eq_zero_iff.1 (Nat.le_zero.1 hU);subst this;simp at *
 | succ fuel ih =>
  intro listed U s hU hr hu hB hc hAA hir H;refine⟨fun h=>(by rw[h]at hir;cases hir),fun j hj=>?_⟩;by_cases hji:j=i
  ·subst hji;exact H
  ·obtain⟨hjun,oj,hoj,hall⟩:=mem_ready.1 hj;have hiun:=(mem_ready.1 hir).1;have unl:∀ x,listed.getD x true=false→listed.getD x false=false:=fun x hx=>by
    rcases qEr x listed.size with h' | h'
    ·simp[h']at hx ⊢;exact hx
    ·simp[qED h']at hx
   have hjB:j ∉ B:=fun hb=>by
    obtain⟨e,he,hbi,hon⟩:=hBw j hb oj hoj;have h1:=hall e he hbi;rcases hon with hon | hon
    ·rw[hon]at h1;rw[unl i hiun]at h1;cases h1
    ·rw[unl _ (hB _ hon)]at h1;cases h1
   obtain⟨hcm,hok⟩:=hc j oj hoj hji hjun hjB;have h1:qaB P n ops (ann i) oi s (fun s1=>qaB P n ops (ann j) oj s1 (qgX P n ops ann Q fuel ((listed.setIfInBounds i true).setIfInBounds j true))):=by
    unfold opN at H;simp only[hi]at H;refine qcS (fun s1 h1=>?_) H;have:=h1.2 j (ready_mono hj hji);unfold opN at this;simpa only [hoj]using this
   have h2:=qBg hcm hok h1;have hU':(U.erase j).length≤fuel:=by
    have hm:=hr j hj hji;have:=List.length_erase_of_mem hm;omega
   have hset:∀ x,(listed.setIfInBounds j true).getD x true=false→x≠j∧listed.getD x true=false:=fun x hx=>by
    by_cases hjx:j=x
    ·subst hjx;exfalso;rcases qEr j listed.size with h' | h'
     ·simp[h']at hx
     ·have:(listed.setIfInBounds j true)[j]?=none:=by simp;omega
      simp[qDD,this]at hx
    ·rw[getD_set_ne true hjx]at hx;exact⟨fun e=>hjx e.symm,hx⟩
   have go:∀ s2,(∀ j' oj',ops[j']?=some oj'→j'≠i→(listed.setIfInBounds j true).getD j' true=false→j' ∉ B→isF oi.op=true→aOk P oj' s2) →
     qaB P n ops (ann i) oi s2 (qgX P n ops ann Q fuel ((listed.setIfInBounds i true).setIfInBounds j true))→qgX P n ops ann Q (fuel+1) (listed.setIfInBounds j true) s2:=fun s2 hoks h=>by
    refine ih (listed.setIfInBounds j true) (U.erase j) s2 hU' (fun x hx hxi=>?_) (fun x hxs hx hxi=>?_) (fun b hb=>?_) (fun x ox hx hxi hxu hxB=>?_) (fun hF x x' ox ox' h1 h2 h3 h4 h5 h6 h7 h8 h9=>hAA hF x x' ox ox' h1 h2 h3 h4 h5 (hset x h6).2 (hset x' h7).2 h8 h9) (ready_mono hir (qDn hji)) ?_
    ·obtain⟨hxu,ox,hox,_⟩:=mem_ready.1 hx;have:=hset x hxu;exact(qFd this.1).2 (hu x (qEm.1 hox).1 this.2 hxi)
    ·have:=hset x hx;exact(qFd this.1).2 (hu x hxs this.2 hxi)
    ·rw[getD_set_ne true (fun(e:j=b)=>hjB (by rw[e];exact hb))];exact hB b hb
    ·exact⟨(hc x ox hx hxi (hset x hxu).2 hxB).1,fun hF=>hoks x ox hx hxi hxu hxB hF⟩
    ·unfold opN;simp only[hi];rw[Array.setIfInBounds_comm _ _ (qDn hji)]at h;exact h
   unfold opN;simp only[hoj];by_cases hF:isF oi.op=true
   ·have hA:isA oj.op=true∧oj.guard=none:=by
     obtain⟨_,hV | h | h | h⟩:=hcm
     ·exfalso;have hV1:=hV.1
      revert hF hV1
      cases oi.op <;> simp[isF,isV];rename_i c;obtain⟨callee,args,tys⟩:=c;cases callee <;> simp[isF,isV]
     ·exact⟨h.2.1,h.2.2.1⟩
     ·exact⟨h.2.2.2.1,h.2.2.2.2.1⟩
     ·rw[qzl h.1.1]at hF;cases hF
    refine qcS (fun s2 h3=>go s2 (fun j' oj' hj' hji' hju' hjB' _=>?_) h3.1) (qtx hA.1 hA.2 h2);have hs':=hset j' hju';obtain⟨hcm',hok'⟩:=hc j' oj' hj' hji' hs'.2 hjB';have hA':isA oj'.op=true:=by
     obtain⟨_,hV | h | h | h⟩:=hcm'
     ·exfalso;have hV1:=hV.1
      revert hF hV1
      cases oi.op <;> simp[isF,isV];rename_i c;obtain⟨callee,args,tys⟩:=c;cases callee <;> simp[isF,isV]
     ·exact h.2.1
     ·exact h.2.2.2.1
     ·rw[qzl h.1.1]at hF;cases hF
    exact h3.2 oj' hA' (hAA hF j j' oj oj' hoj hj' (qDn hs'.1) hji hji' hjun hs'.2 hjB hjB') (hok' hF)
   ·exact qcS (fun s2 h3=>go s2 (fun j' oj' _ _ _ _ h=>absurd h hF) h3) h2
end
end Go.Av
end
section
namespace Go.Av
open Go.RowKit
def qz6 (plan:List Itm) (i:Nat):Itm:=(plan.find? (·.k == i)).getD ⟨i,[],[],[],[]⟩
def qss (P:Program) (n:Nat) (ops:Array Oper) (K:S→Prop):List Itm→S→Prop
 | [],s=>K s
 | it::r,s=>qAX P (qzC ops it.fr) s∧(match ops[it.k]? with
  | some o=>qaB P n ops it o s (qss P n ops K r)
  | none=>False)
def aB (n:Nat) (it:Itm) (o:Oper):Bool:=isA o.op && o.guard.isNone && (match o.dst with | some d=>decide (d<n) && !it.av.contains d | none=>false)
def nB (n:Nat) (it:Itm) (o:Oper):Bool:=isN it.rd o.op && o.guard.isNone && (match o.dst with | some d=>decide (d<n) && !it.av.contains d | none=>false) && (it.rd.drop 1).all (fun id=>!it.av.contains id)
def apB (ii ij:Itm) (oi oj:Oper):Bool:=(match oi.dst with | some d=>!(ij.rd.drop 1).contains d | none=>true) && (match oj.dst with | some d=>!(ii.rd.drop 1).contains d | none=>true) && (ii.rd.drop 1).all (fun id=>!(ij.rd.drop 1).contains id)
def cmB (n:Nat) (ops:Array Oper) (ii ij:Itm) (oi oj:Oper):Bool :=
 oi.apart ops oj && ((isV oi.op && ii.rd.all (ij.av.contains ·)) || (isF oi.op && aB n ij oj) || (isA oi.op && aB n ii oi && aB n ij oj) || (nB n ii oi && nB n ij oj && apB ii ij oi oj))
def itB (n:Nat) (ops:Array Oper) (it:Itm) (r:List Itm) (listed:Array Bool):Bool :=
 match ops[it.k]? with
 | none=>false
 | some oi =>
  (it.B.all fun b=>!listed.getD b true && (match ops[b]? with | some ob=>ob.after.any fun e=>Region.binds .any e && (e.on == it.k || it.B.contains e.on) | none=>false)) &&
  ((List.range ops.size).all fun j=>j == it.k || listed.getD j true || r.any (·.k == j)) &&
  (r.all fun jt=>it.B.contains jt.k || (match ops[jt.k]? with | some oj=>cmB n ops it jt oi oj && (!isF oi.op || it.fr.contains jt.k) | none=>false)) &&
  (!isF oi.op || r.all fun jt=>r.all fun jt'=>jt.k == jt'.k || it.B.contains jt.k || it.B.contains jt'.k || (match ops[jt.k]?,ops[jt'.k]? with | some a,some b=>a.apart ops b | _,_=>false))
def qfR (n:Nat) (ops:Array Oper):List Itm→Array Bool→Bool
 | [],listed=>(Region.ready .any ops listed).isEmpty
 | it::r,listed=>(Region.ready .any ops listed).contains it.k && itB n ops it r listed && qfR n ops r (listed.setIfInBounds it.k true)
def cvB (o:Oper):Bool:=match o.op with
 | .convert _ _ _=>o.dst.isSome
 | _=>true
def qst (n:Nat) (ops:Array Oper) (plan:List Itm):Bool :=
 ops.toList.all cvB && (plan.all fun it=>decide (qz6 plan it.k=it)) && decide (plan.length=ops.size) && qfR n ops plan (Array.replicate ops.size false)
section
variable {P:Program} {n:Nat} {ops:Array Oper} {s:S} {K K':S→Prop}
theorem qnc {it:Itm} {o:Oper} (h:aB n it o=true):isA o.op=true∧o.guard=none∧∀ d,o.dst=some d→d<n∧d ∉ it.av:=by
 unfold aB at h;simp only[Bool.and_eq_true,qFe]at h;refine⟨h.1.1,h.1.2,fun d hd=>?_⟩;have:=h.2;rw[hd]at this;simp only[Bool.and_eq_true,decide_eq_true_eq,qEa,qFf,decide_eq_false_iff_not]at this;exact this
theorem qqL {it:Itm} {o:Oper} (h:nB n it o=true):NN n it o:=by
 unfold nB at h;simp only[Bool.and_eq_true,qFe]at h;refine⟨h.1.1.1,h.1.1.2,fun d hd=>?_,fun id hid=>?_⟩
 ·have:=h.1.2;rw[hd]at this;simp only[Bool.and_eq_true,decide_eq_true_eq,qEa,qFf,decide_eq_false_iff_not]at this;exact this
 ·have:=qDS.1 h.2 id hid;simpa using this
theorem qtw {ii ij:Itm} {oi oj:Oper} (h:apB ii ij oi oj=true):(∀ d,oi.dst=some d→d ∉ ij.rd.drop 1)∧(∀ d,oj.dst=some d→d ∉ ii.rd.drop 1)∧∀ id∈ii.rd.drop 1,id ∉ ij.rd.drop 1:=by
 unfold apB at h;simp only[Bool.and_eq_true]at h;refine⟨fun d hd=>?_,fun d hd=>?_,fun id hid=>?_⟩
 ·have:=h.1.1;rw[hd]at this;simpa using this
 ·have:=h.1.2;rw[hd]at this;simpa using this
 ·have:=qDS.1 h.2 id hid;simpa using this
theorem qtk {ii ij:Itm} {oi oj:Oper} (h:cmB n ops ii ij oi oj=true):Cm n ops ii ij oi oj:=by
 unfold cmB at h;simp only[Bool.and_eq_true,qFb]at h;refine⟨h.1,?_⟩;rcases h.2 with((⟨h1,h2⟩ | ⟨h1,h2⟩) | ⟨⟨h1,h2⟩,h3⟩) | ⟨⟨h1,h2⟩,h3⟩
 ·exact .inl ⟨h1,fun id hid=>by
   have:=qDS.1 h2 id hid;simpa using this⟩
 ·exact .inr (.inl ⟨h1,qnc h2⟩)
 ·have:=qnc h2;exact .inr (.inr (.inl ⟨h1,this.2.1,fun d hd=>(this.2.2 d hd).2,qnc h3⟩))
 ·exact .inr (.inr (.inr ⟨qqL h1,qqL h2,qtw h3⟩))
theorem qlm {ann:Nat→Itm} {Q:S→Prop}:∀ (plan:List Itm) (listed:Array Bool) (s:S),(∀ it∈plan,ann it.k=it)→qfR n ops plan listed=true→qss P n ops Q plan s→qgX P n ops ann Q plan.length listed s
 | [],listed,s,_,hB,h=>⟨by simpa [qfR]using hB,h⟩
 | it::r,listed,s,hann,hB,h=>by
  simp only[qfR,Bool.and_eq_true]at hB;obtain⟨⟨hr,hit⟩,hrest⟩:=hB;obtain⟨hfr,hg⟩:=h;cases hi:ops[it.k]? with
  | none=>simp[hi]at hg
  | some oi =>
   simp only[hi]at hg;unfold itB at hit;simp only[hi,Bool.and_eq_true]at hit;obtain⟨⟨⟨hb,hu⟩,hc⟩,hf⟩:=hit;have hrm:it.k∈Region.ready .any ops listed:=by simpa using hr
   have hin:∀ j,j<ops.size→listed.getD j true=false→j≠it.k→∃ jt∈r,jt.k=j:=fun j hj hl hne=>by
    have:=qDS.1 hu j (qDT.2 hj);simp only[qFb,beq_iff_eq,hne,false_or,hl,qDA]at this;obtain⟨jt,h1,h2⟩:=qFg.1 this;exact⟨jt,h1,by simpa using h2⟩
   refine qkT (oi:=oi) hi it.B (fun b hbm ob hob=>?_) r.length listed (r.map (·.k)) s (by simp) (fun j hj hne=>?_) (fun j hj hl hne=>?_) (fun b hbm=>?_) (fun j oj hoj hne hl hjB=>?_) (fun hF j j' oj oj' hoj hoj' hjj hne hne' hl hl' hjB hjB'=>?_) hrm ?_
   ·have:=qDS.1 hb b hbm;simp only[hob,Bool.and_eq_true]at this;obtain⟨e,he,h2⟩:=Array.any_eq_true'.1 this.2;simp only[Bool.and_eq_true,qFb,beq_iff_eq,qFf,decide_eq_true_eq]at h2;exact⟨e,he,h2.1,h2.2⟩
   ·obtain⟨hl,oj,hoj,_⟩:=mem_ready.1 hj;obtain⟨jt,h1,h2⟩:=hin j (qEm.1 hoj).1 hl hne;exact qD6.2 ⟨jt,h1,h2⟩
   ·obtain⟨jt,h1,h2⟩:=hin j hj hl hne;exact qD6.2 ⟨jt,h1,h2⟩
   ·have:=qDS.1 hb b hbm;simp only[Bool.and_eq_true,qEa]at this;exact this.1
   ·obtain⟨jt,h1,rfl⟩:=hin j (qEm.1 hoj).1 hl hne;have:=qDS.1 hc jt h1;simp only[qFb,qFf,decide_eq_true_eq,hjB,false_or,hoj,Bool.and_eq_true,qEa]at this;rw[hann it (by simp),hann jt (qEZ _ h1)];refine⟨qtk this.1,fun hF=>?_⟩;rcases this.2 with h2 | h2
    ·rw[h2]at hF;cases hF
    ·exact qmb hfr oj (List.mem_filterMap.2 ⟨jt.k,h2,hoj⟩)
   ·obtain⟨jt,h1,rfl⟩:=hin j (qEm.1 hoj).1 hl hne;obtain⟨jt',h1',rfl⟩:=hin j' (qEm.1 hoj').1 hl' hne';rw[hF]at hf;simp only[Bool.not_true,Bool.false_or]at hf;have:=qDS.1 (qDS.1 hf jt h1) jt' h1';simpa only [hoj,hoj',qFb,beq_iff_eq,hjj,qFf,decide_eq_true_eq,hjB,hjB',false_or]using this
   ·unfold opN;simp only[hi];rw[hann it (by simp)];exact qcS (fun s1 h1=>qlm r _ s1 (fun x hx=>hann x (qEZ _ hx)) hrest h1) hg
theorem qhX {it:Itm} {o:Oper} (hcv:cvB o=true) (h:qdY P n ops it o s K):qhe P n o s K:=by
 unfold qdY at h;unfold qhe;split at h
 ·rename_i hv;split at h
  ·rename_i p v he;have he2:qbb P s.t s.h o=some (p,v):=qo0 (fun id x hx=>by
    unfold qqf at hx;split at hx
    ·exact hx
    ·cases hx) he
   split
   ·rename_i x args tys ho;rw[ho]at hv;simp[isV]at hv
   ·rename_i hne;have hop:opS P o s=some (p,⟨qcw s.t o.dst v,s.h,s.u⟩):=by
     have hval:qfu P o s=some (p,⟨qcw s.t o.dst v,s.h,s.u⟩):=by unfold qfu;rw[he2]
     obtain⟨dst,op,ty,pos,after,guard⟩:=o;simp only at hv;cases op <;> simp only[isV,qDA]at hv <;> try exact hval
     ·cases dst with
      | none =>
       simp[cvB]at hcv
      | some d=>simp only[opS,he2];rfl
     ·rename_i c;obtain⟨callee,args,tys⟩:=c;cases callee with
      | builtin b=>cases b <;> simp only[isV,qDA]at hv <;> exact hval
      | _=>simp only[isV,qDA]at hv
    unfold qhx;rw[hop];exact⟨h.1,h.2.1,h.2.2⟩
  ·cases h
 ·split at h
  ·rename_i x args tys ho;rw[ho];exact qgW (fun s' _ h=>h.2) h
  ·rename_i hne;split
   ·rename_i x args tys ho;exact absurd ho (hne x args tys)
   ·exact qfU (fun p s' _ h=>h.2) h.2
theorem qkj {it:Itm} {o:Oper} (hcv:cvB o=true) (h:qaB P n ops it o s K):qeQ P n ops o s K:=by
 unfold qaB qfD at h;unfold qeQ;cases hg:o.guard with
 | none =>
  simp only[hg]at h;exact qhX hcv h
 | some gw =>
  obtain⟨g,want⟩:=gw;simp only[hg]at h ⊢;cases hd:(ops[g]?).bind (·.dst)with
  | none=>simp[hd]at h
  | some d =>
   simp only[hd]at h ⊢;cases ht:s.t d <;> simp only[ht]at h ⊢
   ·rename_i b;by_cases hb:b=want
    ·subst hb;simp only[beq_self_eq_true]at h;exact⟨fun _=>qhX hcv h,fun e=>absurd rfl e⟩
    ·have:(b == want)=false:=by simpa using hb
     simp only[this]at h;exact⟨fun e=>absurd e hb,fun _=>h⟩
   ·exact h
theorem qhR {ρ:Option Nat} {m:Nat} {c:Cx} (hn:c.n=n) {ann:Nat→Itm} {Q:S→Prop} {Q':Exit→Act→World→Prop} (hcv:∀ o∈ops.toList,cvB o=true) (hq:∀ s a w,(∃ Z γ,SRel c s Z γ a w)→Q s→Q' .normal a w) :
  ∀ (fuel:Nat) (listed:Array Bool) (s:S) (a:Act) (w:World),(∃ Z γ,SRel c s Z γ a w)→qgX P n ops ann Q fuel listed s→wpAnyIn (fen ρ) m P .any ops Q' fuel listed a w
 | 0,listed,s,a,w,hs,h=>⟨h.1,hq s a w hs h.2⟩
 | fuel+1,listed,s,a,w,hs,h=>⟨fun h0=>hq s a w hs (h.1 h0),fun i hi=>by
   have h1:=h.2 i hi;unfold opN at h1;unfold wpOpIn;cases hi':ops[i]? with
   | none =>
    simp only[hi']at h1;exact qhR hn hcv hq fuel _ s a w hs h1
   | some o =>
    simp only[hi']at h1;obtain⟨Z,γ,hs'⟩:=hs;have:=qlE (ρ:=ρ) (m:=m) (Q:=Q') hn hs' (qkj (hcv o (Array.mem_toList_iff.2 (Array.mem_of_getElem? hi'))) h1) (fun s' a' w' hs'' hk=>qhR (ρ:=ρ) (m:=m) hn hcv hq fuel _ s' a' w' hs'' hk);simp only;split at this
    ·rename_i hw;rw[if_pos hw];exact this
    ·rename_i hw;rw[if_neg hw];exact⟨fun _ _=>trivial,this⟩⟩
theorem quN {E:Env} {id:Nat} {plan:List Itm} {Q:Exit→S→Prop} (hm:P.follows .mixedOrders=true) (hp:qst E.n ops plan=true) (h:qss P E.n ops (Q .normal) plan s):VC P E (.region id ops true) s Q :=
 fun ρ m cx Z γ a w hr hn hi hs=>by
  unfold qst at hp;simp only[Bool.and_eq_true,decide_eq_true_eq]at hp;obtain⟨⟨⟨hcv,hann⟩,hlen⟩,hfrom⟩:=hp;refine wpIn_region_any hm ?_;rw[← hlen];refine qhR (ann:=qz6 plan) (Q:=Q .normal) hn (fun o ho=>qDS.1 hcv o ho) (fun s' a' w' ⟨Z',γ',hs'⟩ hq=>⟨s',Z',γ',hs',hq⟩) plan.length _ s a _ ⟨Z,γ,hs.drew⟩ ?_;refine qlm plan _ s (fun it hit=>?_) (by rw[hlen];exact hfrom) h;have:=qDS.1 hann it hit;simpa using this
end
end Go.Av
end
section
namespace Go.Av
open Go.RowKit
structure AOper where
 g:Option (Nat×Bool)
 d:Option Nat
 op:Op
structure DOper where
 o:AOper
 rd:List Nat
 av:List Nat
 fr:List (Nat×Op)
inductive ACode where
 | skip
 | reg (l:List AOper)
 | draw (l:List DOper)
 | seq (a b:ACode)
 | cond (c:Operand) (a b:ACode)
 | block (id:Nat) (a:ACode)
 | loop (a:ACode)
 | exit (id:Nat)
 | ret
 | rng (g:Operand) (p q:Nat) (a:ACode)
def qs6 (n:Nat):Option Nat→Bool
 | some d=>decide (d<n)
 | none=>true
def qiJ (n:Nat) (ops:Array Oper) (o:Oper):Option AOper :=
 if qs6 n o.dst then
  match o.guard with
  | none=>some ⟨none,o.dst,o.op⟩
  | some (g,want)=>match (ops[g]?).bind (·.dst)with
   | some d=>some ⟨some (d,want),o.dst,o.op⟩
   | none=>none
 else none
def qkH (n:Nat) (ops:Array Oper):List Oper→Option (List AOper)
 | []=>some []
 | o::r=>match qiJ n ops o,qkH n ops r with
  | some a,some l=>some (a::l)
  | _,_=>none
def qo7 (ops:Array Oper):List Nat→Option (List (Nat×Op))
 | []=>some []
 | i::r=>match ops[i]?,qo7 ops r with
  | some o,some l=>match o.dst with
   | some d=>some ((d,o.op)::l)
   | none=>none
  | _,_=>none
def qkI (n:Nat) (ops:Array Oper):List Itm→Option (List DOper)
 | []=>some []
 | it::r=>match ops[it.k]?,qkI n ops r,qo7 ops it.fr with
  | some o,some l,some fr=>match qiJ n ops o with
   | some a=>some (⟨a,it.rd,it.av,fr⟩::l)
   | none=>none
  | _,_,_=>none
def qjj:List (Nat×List Itm)→Nat→List Itm
 | [],_=>[]
 | (i,p)::r,j=>if j=i then p else qjj r j
def qxc (ps:Array Tmp) (asg:Code):Option (Nat×Nat):=match ps.toList,asg with
 | [p],.region _ ops false=>match ops.toList with
  | [o]=>match o.op,o.dst,o.guard with
   | .assign (.tmp p'),some q,none=>if p'=p then some (p,q) else none
   | _,_,_=>none
  | _=>none
 | _,_=>none
def qAf (n:Nat) (g:Operand) (ps:Array Tmp) (asg b:Code) (x:Option ACode):Option (Operand×Nat×Nat×ACode):=match qxc ps asg,x with
 | some (p,q),some x=>if p<n∧q<n∧p≠q∧qih b=true then some (g,p,q,x) else none
 | _,_=>none
def comp (n:Nat) (pl:List (Nat×List Itm)):Code→Option ACode
 | .skip=>some .skip
 | .label _=>some .skip
 | .region _ ops false=>(qkH n ops ops.toList).map .reg
 | .region id ops true=>if qst n ops (qjj pl id) then (qkI n ops (qjj pl id)).map .draw else none
 | .seq a b=>match comp n pl a,comp n pl b with
  | some x,some y=>some (.seq x y)
  | _,_=>none
 | .cond c a b=>match comp n pl a,comp n pl b with
  | some x,some y=>some (.cond c x y)
  | _,_=>none
 | .block id a=>(comp n pl a).map (.block id)
 | .loop a=>(comp n pl a).map .loop
 | .exit id=>some (.exit id)
 | .ret=>some .ret
 | .rangeFunc g ps asg b=>(qAf n g ps asg b (comp n pl b)).map fun x=>.rng x.1 x.2.1 x.2.2.1 x.2.2.2
 | _=>none
def qeu (r:Option (Prop×S)) (K:S→Prop):Prop :=
 match r with
 | some (p,s')=>p∧K s'
 | none=>False
def qdb (r:Option (Prop×AV)) (d:Option Nat) (s:S) (K:S→Prop):Prop :=
 match r with
 | some (p,v)=>p∧K ⟨qcw s.t d v,s.h,s.u⟩
 | none=>False
def qiX (P:Program) (f:Nat) (args:List AV) (dst:Option Nat) (s:S) (K:S→Prop):Prop :=
 qb0 P f=true∧∃ hv pl argsC L R,CallIn s hv pl args argsC L∧ACall P f argsC L R ∧
  ∀ r L',R r L'→∃ φ,CallOut s hv pl φ r L'∧K (qad s pl φ dst r L')
def ql5 (P:Program) (v:AV) (args:List AV) (dst:Option Nat) (s:S) (K:S→Prop):Prop :=
 match v with
 | .fn f cap=>qiX P f (args++cap) dst s K
 | _=>False
def qbk (P:Program) (op:Op) (d:Option Nat) (s:S) (K:S→Prop):Prop :=
 match op with
 | .call ⟨.value x,args,_⟩=>ql5 P (opd s.t x) (args.toList.map (opd s.t)) d s K
 | _=>qeu (opS P ⟨d,op,0,"",#[],none⟩ s) K
def qfk (P:Program) (o:AOper) (s:S) (K:S→Prop):Prop :=
 match o.g with
 | none=>qbk P o.op o.d s K
 | some (g,want)=>match s.t g with
  | .bool b=>(b=want→qbk P o.op o.d s K)∧(b≠want→K ⟨qcw s.t o.d (.tup []),s.h,s.u⟩)
  | .tup _=>K ⟨qcw s.t o.d (.tup []),s.h,s.u⟩
  | _=>False
def qrR (P:Program) (K:S→Prop):List AOper→S→Prop
 | [],s=>K s
 | o::r,s=>qfk P o s (qrR P K r)
def qb6 (P:Program) (rd av:List Nat) (op:Op) (d:Option Nat) (s:S) (K:S→Prop):Prop :=
 if isV op=true then qdb (qbb P s.t (qqf rd s.h) ⟨d,op,0,"",#[],none⟩) d s K
 else match isG op with
  | true=>(rdG rd=true→gOk rd op s.t)∧qbk P op d s (fun s'=>qhc av s.h s'.h∧K s')
  | false=>qbk P op d s (fun s'=>qhc av s.h s'.h∧K s')
def qfj (P:Program) (o:DOper) (s:S) (K:S→Prop):Prop :=
 match o.o.g with
 | none=>qb6 P o.rd o.av o.o.op o.o.d s K
 | some (g,want)=>match s.t g with
  | .bool b=>(b=want→qb6 P o.rd o.av o.o.op o.o.d s K)∧(b≠want→K ⟨qcw s.t o.o.d (.tup []),s.h,s.u⟩)
  | .tup _=>K ⟨qcw s.t o.o.d (.tup []),s.h,s.u⟩
  | _=>False
def frA (P:Program):List (Nat×Op)→S→Prop
 | [],_=>True
 | (d,op)::r,s=>(qeu (opS P ⟨some d,op,0,"",#[],none⟩ s) (fun _=>True)∧s.h d=none)∧frA P r s
def qiU (P:Program) (K:S→Prop):List DOper→S→Prop
 | [],s=>K s
 | o::r,s=>frA P o.fr s∧qfj P o s (qiU P K r)
section
variable {P:Program} {n:Nat} {E:Env} {s:S} {K:S→Prop}
theorem qnP (o:Oper):opS P o s=opS P ⟨o.dst,o.op,0,"",#[],none⟩ s:=by
 obtain⟨d,op,_,_,_,_⟩:=o;rfl
theorem qgk {o:Oper} (hd:qs6 n o.dst=true) (h:qbk P o.op o.dst s K):qhe P n o s K:=by
 unfold qbk at h;unfold qhe;have hdd:∀ k,o.dst=some k→k<n:=fun k hk=>by rw[hk]at hd;simpa [qs6]using hd
 split at h
 ·rename_i x args tys ho;simp only[ho];unfold ql5 at h;unfold qiW;split at h
  ·rename_i f cap hx;simp only[hx];exact⟨h.1,hdd,h.2⟩
  ·cases h
 ·rename_i hne;have h2:qhx n o.dst (opS P o s) K:=by
   unfold qeu at h;unfold qhx;rw[qnP];split at h
   ·rename_i p s' he;simp only[he];refine⟨h.1,?_,h.2⟩;cases hx:o.dst with
    | none=>trivial
    | some k=>exact hdd k hx
   ·cases h
  split
  ·rename_i x args tys ho;exact absurd ho (hne x args tys)
  ·exact h2
theorem qlG {ops:Array Oper} {o:Oper} {a:AOper} (hc:qiJ n ops o=some a) (h:qfk P a s K):qeQ P n ops o s K:=by
 unfold qiJ at hc;split at hc
 ·rename_i hd;have hdd:match o.dst with | some d=>d<n | none=>True:=by
   cases hx:o.dst with
   | none=>trivial
   | some k=>rw[hx]at hd;simpa [qs6]using hd
  split at hc
  ·rename_i hg;injection hc with hc;subst hc;unfold qeQ;simp only[hg];exact qgk hd h
  ·rename_i g want hg;split at hc
   ·rename_i d hb;injection hc with hc;subst hc;unfold qeQ;simp only[hg,hb];unfold qfk at h;simp only at h;split at h
    ·rename_i b hbb;simp only[hbb];exact⟨fun e=>qgk hd (h.1 e),fun e=>⟨hdd,h.2 e⟩⟩
    ·rename_i l hbb;simp only[hbb];exact⟨hdd,h⟩
    ·cases h
   ·cases hc
 ·cases hc
theorem qi7 {o:Oper} {K':S→Prop} (hk:∀ s,K s→K' s) (h:qhe P n o s K):qhe P n o s K':=by
 unfold qhe at *
 split at h
 ·unfold qiW at *
  split at h
  ·obtain⟨h1,h2,hv,pl,argsC,L,R,h3,h4,h5⟩:=h;refine⟨h1,h2,hv,pl,argsC,L,R,h3,h4,fun r L' hr=>?_⟩;obtain⟨φ,h6,h7⟩:=h5 r L' hr;exact⟨φ,h6,hk _ h7⟩
  ·exact h
 ·unfold qhx at *
  split at h
  ·exact⟨h.1,h.2.1,hk _ h.2.2⟩
  ·exact h
theorem qmH {ops:Array Oper} {o:Oper} {K':S→Prop} (hk:∀ s,K s→K' s) (h:qeQ P n ops o s K):qeQ P n ops o s K':=by
 unfold qeQ at *
 split at h
 ·exact qi7 hk h
 ·split at h
  ·split at h
   ·exact⟨fun e=>qi7 hk (h.1 e),fun e=>⟨(h.2 e).1,hk _ (h.2 e).2⟩⟩
   ·exact⟨h.1,hk _ h.2⟩
   ·exact h
  ·exact h
theorem qnA {ops:Array Oper}:∀ {l:List Oper} {al:List AOper} {s:S},qkH n ops l=some al→qrR P K al s→qAl P n ops K l s
 | [],al,s,hc,h=>by simp only[qkH,qDs]at hc;subst hc;exact h
 | o::l,al,s,hc,h=>by
  simp only[qkH]at hc;split at hc
  ·rename_i a al' h1 h2;injection hc with hc;subst hc;exact qmH (fun s' h'=>qnA h2 h') (qlG h1 h)
  ·cases hc
theorem qoZ (o:Oper) {t:Tm} {h:Hp}:qbb P t h o=qbb P t h ⟨o.dst,o.op,0,"",#[],none⟩:=by
 obtain⟨d,op,_,_,_,_⟩:=o;rfl
theorem qi8 {ops:Array Oper} {it:Itm} {o:Oper} (hd:qs6 n o.dst=true) (h:qb6 P it.rd it.av o.op o.dst s K):qdY P n ops it o s K:=by
 have hdd:match o.dst with | some d=>d<n | none=>True:=by
  cases hx:o.dst with
  | none=>trivial
  | some k=>rw[hx]at hd;simpa [qs6]using hd
 unfold qb6 at h;unfold qdY;split at h
 ·rename_i hv;rw[if_pos hv];rw[qoZ o];unfold qdb at h;split at h
  ·rename_i p v he
   try simp only[he]
   exact⟨h.1,hdd,h.2⟩
  ·cases h
 ·rename_i hv;rw[if_neg hv];have h2:(qrU it.rd o.op=true→gOk it.rd o.op s.t)∧qbk P o.op o.dst s (fun s'=>qhc it.av s.h s'.h∧K s'):=by
   split at h
   ·exact⟨fun hm=>h.1 (by unfold qrU at hm;simp only[Bool.and_eq_true]at hm;exact hm.2),h.2⟩
   ·rename_i hg;exact⟨fun hm=>by unfold qrU at hm;rw[hg]at hm;simp at hm,h⟩
  have h3:=qgk (n:=n) hd h2.2;unfold qhe at h3;split at h3
  ·rename_i ho;simp only[ho];exact h3
  ·rename_i hne;split
   ·rename_i ho;exact absurd ho (hne _ _ _)
   ·exact⟨h2.1,h3⟩
theorem qlF {ops:Array Oper} {it:Itm} {o:Oper} {a:AOper} {fr:List (Nat×Op)} (hc:qiJ n ops o=some a) (h:qfj P ⟨a,it.rd,it.av,fr⟩ s K):qaB P n ops it o s K:=by
 unfold qiJ at hc;split at hc
 ·rename_i hd;have hdd:match o.dst with | some d=>d<n | none=>True:=by
   cases hx:o.dst with
   | none=>trivial
   | some k=>rw[hx]at hd;simpa [qs6]using hd
  split at hc
  ·rename_i hg;injection hc with hc;subst hc;unfold qaB qfD;simp only[hg];exact qi8 hd h
  ·rename_i g want hg;split at hc
   ·rename_i d hb;injection hc with hc;subst hc;unfold qaB qfD;simp only[hg,hb];unfold qfj at h;simp only at h;cases ht:s.t d <;> simp only[ht]at h ⊢
    ·rename_i b;by_cases hbw:b=want
     ·subst hbw;simp only[beq_self_eq_true];exact qi8 hd (h.1 rfl)
     ·have:(b == want)=false:=by simpa using hbw
      simp only[this];exact⟨hdd,h.2 hbw⟩
    ·exact⟨hdd,h⟩
   ·cases hc
 ·cases hc
theorem que {ops:Array Oper}:∀ {l:List Nat} {fr:List (Nat×Op)},qo7 ops l=some fr→frA P fr s→qAX P (qzC ops l) s
 | [],fr,hc,h=>trivial
 | i::r,fr,hc,h=>by
  simp only[qo7]at hc;split at hc
  ·rename_i o l h1 h2;split at hc
   ·rename_i d hd;injection hc with hc;subst hc;have hf:qzC ops (i::r)=o::qzC ops r:=by simp[qzC,h1]
    rw[hf];refine⟨⟨?_,by rw[hd];exact h.1.2⟩,que h2 h.2⟩;have h3:=h.1.1;rw[qnP,hd];unfold qeu at h3;split at h3
    ·rename_i p s' he;(try simp only[he]);exact h3.1
    ·exact h3.elim
   ·cases hc
  ·cases hc
theorem qjv {ops:Array Oper}:∀ {plan:List Itm} {l:List DOper} {s:S},qkI n ops plan=some l→qiU P K l s→qss P n ops K plan s
 | [],l,s,hc,h=>by simp only[qkI,qDs]at hc;subst hc;exact h
 | it::r,l,s,hc,h=>by
  simp only[qkI]at hc;split at hc
  ·rename_i o l' fr h1 h2 h3;split at hc
   ·rename_i a h4;injection hc with hc;subst hc;refine⟨que h3 h.1,?_⟩;rw[h1];exact qcS (fun s' h'=>qjv h2 h') (qlF h4 h.2)
   ·cases hc
  ·cases hc
def VA (P:Program) (E:Env) (a:ACode) (s:S) (Q:Exit→S→Prop):Prop:=∀ pl c,comp E.n pl c=some a→VC P E c s Q
variable {Q:Exit→S→Prop}
theorem qiI {pl:List (Nat×List Itm)} {c:Code} (h:comp n pl c=some .skip):c=.skip∨∃ l,c=.label l:=by
 cases c with
 | skip=>exact .inl rfl
 | label l=>exact .inr ⟨l,rfl⟩
 | region id ops b=>cases b <;> simp[comp,Option.map]at h <;> (try split at h) <;> (try simp at h) <;> (try split at h) <;> (try simp at h)
 | seq a b=>simp only[comp]at h;split at h <;> simp at h
 | cond c a b=>simp only[comp]at h;split at h <;> simp at h
 | block id a=>simp[comp]at h
 | loop a=>simp[comp]at h
 | _=>simp[comp]at h
theorem quP (h:Q .normal s):VA P E .skip s Q:=fun pl c hc=>by
 rcases qiI hc with rfl | ⟨l,rfl⟩
 ·exact quJ h
 ·exact qrV h
theorem qxS {l:List AOper} (h:qrR P (Q .normal) l s):VA P E (.reg l) s Q:=fun pl c hc=>by
 cases c with
 | region id ops b =>
  cases b with
  | false =>
   simp only[comp,qFh,ACode.reg.injEq]at hc;obtain⟨l',h1,rfl⟩:=hc;have:=qps (P:=P) (E:=E) (id:=id) (l:=ops.toList) (Q:=Q) (s:=s) (qnA (by simpa using h1) h);simpa using this
  | true=>simp[comp,Option.map]at hc;split at hc <;> simp at hc
 | seq a b=>simp only[comp]at hc;split at hc <;> simp at hc
 | cond c a b=>simp only[comp]at hc;split at hc <;> simp at hc
 | block id a=>simp[comp]at hc
 | loop a=>simp[comp]at hc
 | _=>simp[comp]at hc
theorem quS {l:List DOper} (hm:P.follows .mixedOrders=true) (h:qiU P (Q .normal) l s):VA P E (.draw l) s Q:=fun pl c hc=>by
 cases c with
 | region id ops b =>
  cases b with
  | false=>simp[comp,Option.map]at hc;split at hc <;> simp at hc
  | true =>
   simp only[comp]at hc;split at hc
   ·rename_i hp;simp only[qFh,ACode.draw.injEq]at hc;obtain⟨l',h1,rfl⟩:=hc;exact quN hm hp (qjv h1 h)
   ·cases hc
 | seq a b=>simp only[comp]at hc;split at hc <;> simp at hc
 | cond c a b=>simp only[comp]at hc;split at hc <;> simp at hc
 | block id a=>simp[comp]at hc
 | loop a=>simp[comp]at hc
 | _=>simp[comp]at hc
theorem qiZ {x y:ACode} (h:VA P E x s (qff (fun s'=>VA P E y s' Q) Q)):VA P E (.seq x y) s Q:=fun pl c hc=>by
 cases c with
 | seq a b =>
  simp only[comp]at hc;split at hc
  ·rename_i x' y' h1 h2;injection hc with hc;injection hc with e1 e2;subst e1;subst e2;refine qxN ((h pl a h1).mono fun e s' h'=>?_);cases e with
   | normal=>exact h' pl b h2
   | _=>exact h'
  ·cases hc
 | region id ops b=>cases b <;> simp[comp,Option.map]at hc <;> (try split at hc) <;> (try simp at hc) <;> (try split at hc) <;> (try simp at hc)
 | cond c a b=>simp only[comp]at hc;split at hc <;> simp at hc
 | block id a=>simp[comp]at hc
 | loop a=>simp[comp]at hc
 | _=>simp[comp]at hc
theorem quU {c:Operand} {x y:ACode} {b:Bool} (hb:opd s.t c=.bool b) (ht:b=true→VA P E x s Q) (hf:b=false→VA P E y s Q):VA P E (.cond c x y) s Q:=fun pl k hc=>by
 cases k with
 | cond c' a b =>
  simp only[comp]at hc;split at hc
  ·rename_i x' y' h1 h2;injection hc with hc;injection hc with e0 e1 e2;subst e0;subst e1;subst e2;exact quO hb (fun e=>ht e pl a h1) (fun e=>hf e pl b h2)
  ·cases hc
 | region id ops b=>cases b <;> simp[comp,Option.map]at hc <;> (try split at hc) <;> (try simp at hc) <;> (try split at hc) <;> (try simp at hc)
 | seq a b=>simp only[comp]at hc;split at hc <;> simp at hc
 | block id a=>simp[comp]at hc
 | loop a=>simp[comp]at hc
 | _=>simp[comp]at hc
theorem qmk {c:Operand} {x y:ACode} (hb:opd s.t c=.anyb) (ht:VA P E x s Q) (hf:VA P E y s Q):VA P E (.cond c x y) s Q:=fun pl k hc=>by
 cases k with
 | cond c' a b =>
  simp only[comp]at hc;split at hc
  ·rename_i x' y' h1 h2;injection hc with hc;injection hc with e0 e1 e2;subst e0;subst e1;subst e2;exact qmj hb (ht pl a h1) (hf pl b h2)
  ·cases hc
 | region id ops b=>cases b <;> simp[comp,Option.map]at hc <;> (try split at hc) <;> (try simp at hc) <;> (try split at hc) <;> (try simp at hc)
 | seq a b=>simp only[comp]at hc;split at hc <;> simp at hc
 | block id a=>simp[comp]at hc
 | loop a=>simp[comp]at hc
 | _=>simp[comp]at hc
theorem qrY {id:Nat} {x:ACode} (h:VA P E x s (qfs id Q)):VA P E (.block id x) s Q:=fun pl c hc=>by
 cases c with
 | block id' a =>
  simp only[comp,qFh,ACode.block.injEq]at hc;obtain⟨l',h1,rfl,rfl⟩:=hc;exact qrW (h pl a h1)
 | region id ops b=>cases b <;> simp[comp,Option.map]at hc <;> (try split at hc) <;> (try simp at hc) <;> (try split at hc) <;> (try simp at hc)
 | seq a b=>simp only[comp]at hc;split at hc <;> simp at hc
 | cond c a b=>simp only[comp]at hc;split at hc <;> simp at hc
 | loop a=>simp[comp]at hc
 | _=>simp[comp]at hc
theorem quQ {x:ACode} (I:Nat→S→Prop) (k:Nat) (h0:I k s)
  (round:∀ k s,I k s→VA P E x s (qff (fun s'=>∃ k',k'<k∧I k' s') Q)):VA P E (.loop x) s Q:=fun pl c hc=>by
 cases c with
 | loop a =>
  simp only[comp,qFh,ACode.loop.injEq]at hc;obtain⟨l',h1,rfl⟩:=hc;exact quL I k h0 fun k s hI=>round k s hI pl a h1
 | region id ops b=>cases b <;> simp[comp,Option.map]at hc <;> (try split at hc) <;> (try simp at hc) <;> (try split at hc) <;> (try simp at hc)
 | seq a b=>simp only[comp]at hc;split at hc <;> simp at hc
 | cond c a b=>simp only[comp]at hc;split at hc <;> simp at hc
 | block id a=>simp[comp]at hc
 | _=>simp[comp]at hc
theorem quR {id:Nat} (h:Q (.exit id) s):VA P E (.exit id) s Q:=fun pl c hc=>by
 cases c with
 | exit id' =>
  simp only[comp,qDs,ACode.exit.injEq]at hc;subst hc;exact quM h
 | region id ops b=>cases b <;> simp[comp,Option.map]at hc <;> (try split at hc) <;> (try simp at hc) <;> (try split at hc) <;> (try simp at hc)
 | seq a b=>simp only[comp]at hc;split at hc <;> simp at hc
 | cond c a b=>simp only[comp]at hc;split at hc <;> simp at hc
 | block id a=>simp[comp]at hc
 | loop a=>simp[comp]at hc
 | _=>simp[comp]at hc
theorem qxR (h:Q .ret s):VA P E .ret s Q:=fun pl c hc=>by
 cases c with
 | ret=>exact qxO h
 | region id ops b=>cases b <;> simp[comp,Option.map]at hc <;> (try split at hc) <;> (try simp at hc) <;> (try split at hc) <;> (try simp at hc)
 | seq a b=>simp only[comp]at hc;split at hc <;> simp at hc
 | cond c a b=>simp only[comp]at hc;split at hc <;> simp at hc
 | block id a=>simp[comp]at hc
 | loop a=>simp[comp]at hc
 | _=>simp[comp]at hc
theorem VA.mono {c:ACode} {Q':Exit→S→Prop} (h:VA P E c s Q) (hq:∀ e s,Q e s→Q' e s):VA P E c s Q':=fun pl k hk=>(h pl k hk).mono hq
theorem qpt {c:ACode} {s':S} (hw:SW E s s') (h:VA P E c s' Q):VA P E c s Q:=fun pl k hk=>qxP hw (h pl k hk)
theorem qpu {c:ACode} (h:VA P E c s fun e s'=>∃ s'',SW E s' s''∧Q e s''):VA P E c s Q:=fun pl k hk=>quK (h pl k hk)
theorem qrM {f:Nat} (hbd:hasBody P f=true) {fn:Func} {ac:ACode} {args:List AV} {L:List (Nat×Ob)} {R:AV→List (Nat×Ob)→Prop} (n:Nat) (pl:List (Nat×List Itm)) (rs:List ResultVar) (hf:P.funcs[f]?=some fn) (hc:fn.body.bind (comp n pl)=some ac) (hn:fn.ntmps=n)
  (hr:fn.results.toList=rs) (ha:args.length≤n) (hL:(L.map (·.1)).Nodup)
  (h:VA P ⟨n,L.map (·.1)⟩ ac ⟨qrK args,qaW L,Us.of (L.map (·.1))⟩ (qnx P rs R)):ACall P f args L R:=by
 subst hn;subst hr;cases hb:fn.body with
 | none=>simp[hb]at hc
 | some b =>
  rw[hb]at hc;exact qCu hbd hf hb ha hL (h pl b hc)
end
end Go.Av
end
section
namespace Go.Av
open Go.RowKit
section
variable {P:Program} {s:S} {K:S→Prop} {d:Option Nat} {k:Nat}
@[simp] theorem qAm:qrR P K [] s=K s:=rfl
@[simp] theorem qyJ (o:AOper) (r:List AOper):qrR P K (o::r) s=qfk P o s (qrR P K r):=rfl
@[simp] theorem qwC (op:Op):qfk P ⟨none,d,op⟩ s K=qbk P op d s K:=rfl
def gd (P:Program) (g:Nat) (want:Bool) (op:Op) (d:Option Nat) (s:S) (K:S→Prop):AV→Prop
 | .bool b=>(b=want→qbk P op d ⟨upd s.t g (.bool want),s.h,s.u⟩ K)∧(b=(!want)→K ⟨qcw (upd s.t g (.bool (!want))) d (.tup []),s.h,s.u⟩)
 | .tup _=>K ⟨qcw s.t d (.tup []),s.h,s.u⟩
 | _=>False
theorem qng {α:Type} (f:Nat→α) (k:Nat) (v:α) (h:f k=v):upd f k v=f:=by
 funext i;unfold upd;split
 ·rename_i hi;rw[hi,h]
 ·rfl
theorem qmL (g:Nat) (want:Bool) (op:Op):qfk P ⟨some (g,want),d,op⟩ s K=gd P g want op d s K (s.t g):=by
 simp only[qfk,gd];cases hv:s.t g <;> try rfl
 rename_i b;simp only;cases b <;> cases want <;> simp[qng _ _ _ hv]
attribute [simp] qmL
@[simp] theorem qC8 (g:Nat) (op:Op):gd P g true op d s K (.bool true)=qbk P op d ⟨upd s.t g (.bool true),s.h,s.u⟩ K:=by simp[gd]
@[simp] theorem qDb (g:Nat) (op:Op):gd P g false op d s K (.bool false)=qbk P op d ⟨upd s.t g (.bool false),s.h,s.u⟩ K:=by simp[gd]
@[simp] theorem qC9 (g:Nat) (op:Op):gd P g true op d s K (.bool false)=K ⟨qcw (upd s.t g (.bool false)) d (.tup []),s.h,s.u⟩:=by simp[gd]
@[simp] theorem qDa (g:Nat) (op:Op):gd P g false op d s K (.bool true)=K ⟨qcw (upd s.t g (.bool true)) d (.tup []),s.h,s.u⟩:=by simp[gd]
@[simp low] theorem qB3 (g:Nat) (want b:Bool) (op:Op):gd P g want op d s K (.bool b)=((b=want→qbk P op d ⟨upd s.t g (.bool want),s.h,s.u⟩ K)∧(b=(!want)→K ⟨qcw (upd s.t g (.bool (!want))) d (.tup []),s.h,s.u⟩)):=rfl
@[simp] theorem qCA (g:Nat) (want:Bool) (l:List AV) (op:Op):gd P g want op d s K (.tup l)=K ⟨qcw s.t d (.tup []),s.h,s.u⟩:=rfl
@[simp] theorem qyR (p:Prop) (s':S):qeu (some (p,s')) K=(p∧K s'):=rfl
@[simp] theorem qyS:qeu none K=False:=rfl
@[simp] theorem qyP (p:Prop) (v:AV):qdb (some (p,v)) d s K=(p∧K ⟨qcw s.t d v,s.h,s.u⟩):=rfl
@[simp] theorem qyQ:qdb none d s K=False:=rfl
@[simp] theorem qBD (t:Tm) (i:Nat):opd t (.tmp i)=t i:=rfl
@[simp] theorem qBF (t:Tm) (kk:IntKind) (n:Int):opd t (.const (.int kk n))=.int kk n:=rfl
@[simp] theorem qAt (t:Tm) (b:Bool):opd t (.const (.bool b))=.bool b:=rfl
@[simp] theorem qBE (t:Tm) (a:Array UInt8):opd t (.const (.string ⟨a⟩))=.str a.toList:=rfl
@[simp] theorem qAq (t:Tm):opd t (.const (.pointer none))=.nilp:=rfl
@[simp] theorem qAp (t:Tm):opd t (.const (.slice none 0 0))=.nils:=rfl
@[simp] theorem qAr (t:Tm):opd t (.const .nilIface)=.nili:=rfl
@[simp] theorem qBG (t:Tm) (cs:Array Value):opd t (.const (.agg cs))=.agg (cs.toList.map av1):=rfl
@[simp] theorem qAs (t:Tm) (f:Nat):opd t (.func f)=.fn f []:=rfl
attribute [simp] av1
@[simp] theorem qyM (t:Tm) (k:Nat) (v:AV):qcw t (some k) v=upd t k v:=rfl
@[simp] theorem qyN (t:Tm) (v:AV):qcw t none v=t:=rfl
@[simp] theorem qAY {α:Type} (f:Nat→α) (k:Nat) (v:α) (i:Nat):upd f k v i=if i=k then v else f i:=rfl
@[simp] theorem qBO (i:Nat):mkT [] i=.top:=rfl
@[simp] theorem qAC (j:Nat) (v:AV) (r:List (Nat×AV)) (i:Nat):mkT ((j,v)::r) i=if i=j then v else mkT r i:=rfl
@[simp] theorem qsV (i:Nat):qaW [] i=none:=rfl
@[simp] theorem qeP (j:Nat) (o:Ob) (r:List (Nat×Ob)) (i:Nat):qaW ((j,o)::r) i=if i=j then some o else qaW r i:=by simp only[qaW]
attribute [simp] Us.mem_cons Us.mem_app Us.mem_of
@[simp] theorem qAT (l:List AV) (i:Nat):qrK l i=l.getD i .top:=rfl
theorem qbd (op:Op):qeu (qfu P ⟨d,op,0,"",#[],none⟩ s) K=qdb (qbb P s.t s.h ⟨d,op,0,"",#[],none⟩) d s K:=by
 unfold qfu;cases qbb P s.t s.h ⟨d,op,0,"",#[],none⟩with
 | none=>rfl
 | some r=>obtain⟨p,v⟩:=r;rfl
@[simp] theorem qxo (x:Operand):qbk P (.move x) d s K=K ⟨qcw s.t d (opd s.t x),s.h,s.u⟩:=by
 show qeu (qfu P ⟨d,.move x,0,"",#[],none⟩ s) K=_;rw[qbd];simp[qbb]
@[simp] theorem qtN (x:Operand):qbk P (.assign x) d s K=K ⟨qcw s.t d (opd s.t x),s.h,s.u⟩:=by
 show qeu (qfu P ⟨d,.assign x,0,"",#[],none⟩ s) K=_;rw[qbd];simp[qbb]
def qrn (c a b:AV):Option (Prop×AV) :=
 match c with
 | .bool c=>some (True,if c=true then a else b)
 | _=>none
@[simp] theorem qwJ (c:Bool) (a b:AV):qrn (.bool c) a b=some (True,if c=true then a else b):=rfl
@[simp] theorem qxn (c a b:Operand):qbk P (.pick c a b) d s K=qdb (qrn (opd s.t c) (opd s.t a) (opd s.t b)) d s K:=by
 show qeu (qfu P ⟨d,.pick c a b,0,"",#[],none⟩ s) K=_;rw[qbd];rfl
@[simp] theorem qvl (ty:Nat) (parts:Array (Nat×Operand)):qbk P (.build ty parts) d s K=qdb (qgN P ty (parts.toList.map fun x=>(x.1,opd s.t x.2))) d s K:=by
 show qeu (qfu P ⟨d,.build ty parts,0,"",#[],none⟩ s) K=_;rw[qbd];rfl
@[simp] theorem qxp (ty:Nat) (a:Operand):qbk P (.load ty a) d s K=qdb (qfo P s.h ty (opd s.t a)) d s K:=by
 show qeu (qfu P ⟨d,.load ty a,0,"",#[],none⟩ s) K=_;rw[qbd];rfl
def qCc (x:AV):Option (Prop×AV) :=
 match x with
  | .ptr id e k=>some (True,.ptr id e k)
  | .elm cs=>some (True,.elm cs)
  | .fn f c=>some (True,.fn f c)
  | _=>none
@[simp] theorem qrP (x:Operand):qbk P (.nilCheck x) d s K=qdb (qCc (opd s.t x)) d s K:=by
 show qeu (qfu P ⟨d,.nilCheck x,0,"",#[],none⟩ s) K=_;rw[qbd];rfl
@[simp] theorem qvm (op:BinOp) (xt:Nat) (x y:Operand) (yt:Nat):qbk P (.binOp op xt x y yt) d s K=qdb (qo4 P op xt x y (opd s.t x) (opd s.t y)) d s K:=by
 show qeu (qfu P ⟨d,.binOp op xt x y yt,0,"",#[],none⟩ s) K=_;rw[qbd];rfl
@[simp] theorem qxm (op:UnOp) (xt:Nat) (x:Operand):qbk P (.unOp op xt x) d s K=qdb (qxC op (opd s.t x)) d s K:=by
 show qeu (qfu P ⟨d,.unOp op xt x,0,"",#[],none⟩ s) K=_;rw[qbd];rfl
def qw1 (r:Option (Prop×AV)) (b:Option (Prop×S)) (k:Nat) (s:S) (K:S→Prop):Prop :=
 match r with
 | some (p,v)=>p∧K ⟨upd s.t k v,s.h,s.u⟩
 | none=>qeu b K
@[simp] theorem qxG (p:Prop) (v:AV) (b:Option (Prop×S)):qw1 (some (p,v)) b k s K=(p∧K ⟨upd s.t k v,s.h,s.u⟩):=rfl
@[simp] theorem qxH (b:Option (Prop×S)):qw1 none b k s K=qeu b K:=rfl
@[simp] theorem qsc (sr ds:Nat) (x:Operand):qbk P (.convert sr ds x) (some k) s K=qw1 (qdL P s.h sr ds (opd s.t x)) (qfG P s k sr ds (opd s.t x)) k s K:=by
 show qeu (opS P ⟨some k,.convert sr ds x,0,"",#[],none⟩ s) K=_;simp only[opS,qbb];cases qdL P s.h sr ds (opd s.t x)with
 | none=>rfl
 | some r=>obtain⟨p,v⟩:=r;rfl
@[simp] theorem qrQ (f:Nat) (cap:Array Operand):qbk P (.makeFunc (.func f) #[] cap) d s K=K ⟨qcw s.t d (.fn f (cap.toList.map (opd s.t))),s.h,s.u⟩:=by
 show qeu (qfu P ⟨d,.makeFunc (.func f) #[] cap,0,"",#[],none⟩ s) K=_;rw[qbd];simp[qbb]
@[simp] theorem qvi (ty:Nat) (x:Operand) (lo hi:Option Operand):qbk P (.slice ty x lo hi none) d s K=qdb (qcn P s.h ty (opd s.t x) (lo.map (opd s.t)) (hi.map (opd s.t))) d s K:=by
 show qeu (qfu P ⟨d,.slice ty x lo hi none,0,"",#[],none⟩ s) K=_;rw[qbd];rfl
@[simp] theorem qpQ (ty:Nat) (x:Operand) (f:Nat):qbk P (.fieldAddr ty x f) d s K=qdb (qce P ty f (opd s.t x)) d s K:=by
 show qeu (qfu P ⟨d,.fieldAddr ty x f,0,"",#[],none⟩ s) K=_;rw[qbd];rfl
@[simp] theorem qpP (ty:Nat) (x i:Operand):qbk P (.indexAddr ty x i) d s K=qdb (qcu P s.h ty (opd s.t x) (opd s.t i)) d s K:=by
 show qeu (qfu P ⟨d,.indexAddr ty x i,0,"",#[],none⟩ s) K=_;rw[qbd];rfl
@[simp] theorem qvj (ty:Nat) (x i:Operand):qbk P (.index ty x i) d s K=qdb (qgL P ty (opd s.t x) (opd s.t i)) d s K:=by
 show qeu (qfu P ⟨d,.index ty x i,0,"",#[],none⟩ s) K=_;rw[qbd];rfl
def qwK (x:AV) (ix:Nat):Option (Prop×AV) :=
 match x with
  | .tup vs=>match vs[ix]? with
   | some v=>some (True,v)
   | none=>none
  | _=>none
@[simp] theorem qsb (x:Operand) (ix:Nat):qbk P (.extract x ix) d s K=qdb (qwK (opd s.t x) ix) d s K:=by
 show qeu (qfu P ⟨d,.extract x ix,0,"",#[],none⟩ s) K=_;rw[qbd];rfl
@[simp] theorem qx5 (x:Operand) (ty:Nat):qbk P (.call ⟨.builtin .len,#[x],#[ty]⟩) d s K=qdb (qo2 P ty (opd s.t x)) d s K:=by
 show qeu (qfu P ⟨d,.call ⟨.builtin .len,#[x],#[ty]⟩,0,"",#[],none⟩ s) K=_;rw[qbd];rfl
def qzD (x y:AV):Option (Prop×AV) :=
 match x,y with
 | .int k m,.int _ n=>some (True,.int k (if n<m then n else m))
 | _,_=>none
@[simp] theorem qx4 (x y:Operand) (tys:Array Nat):qbk P (.call ⟨.builtin .min,#[x,y],tys⟩) d s K=qdb (qzD (opd s.t x) (opd s.t y)) d s K:=by
 show qeu (qfu P ⟨d,.call ⟨.builtin .min,#[x,y],tys⟩,0,"",#[],none⟩ s) K=_;rw[qbd];rfl
@[simp] theorem qvn (ty:Nat):qbk P (.alloc ty) (some k) s K=qeu (qel P s k ty) K:=rfl
@[simp] theorem qx7 (ty:Nat) (x:Operand):qbk P (.box ty x) (some k) s K=qeu (qku P s k ty (opd s.t x)) K:=rfl
@[simp] theorem qpi (ty len:Nat) (parts:Array (Nat×Operand)):qbk P (.buildSlice ty len parts) (some k) s K=qeu (qbt P s k ty len (parts.toList.map fun x=>(x.1,opd s.t x.2))) K:=rfl
@[simp] theorem qpO (ty:Nat) (x y:Operand):qbk P (.makeSlice ty x y) (some k) s K=qeu (qfn P s k ty (opd s.t x) (opd s.t y)) K:=rfl
@[simp] theorem qvh (ty:Nat) (x y:Operand):qbk P (.store ty x y) none s K=qeu (qfF P s ty (opd s.t x) (opd s.t y)) K:=rfl
@[simp] theorem qtO (ty xt:Nat) (x y:Operand):qbk P (.call ⟨.builtin .append,#[x,y],#[ty,xt]⟩) (some k) s K=qeu (qfh P s k ty xt (opd s.t x) (opd s.t y)) K:=rfl
@[simp] theorem qxD (ty xt:Nat) (y:AV):qfh P s k ty xt .nils y=qb3 P s k ty xt .nils y:=rfl
@[simp] theorem qAQ (ty xt id e len:Nat) (y:AV):qfh P s k ty xt (.sl id e len) y=qb3 P s k ty xt (.sl id e len) y:=rfl
@[simp] theorem qs3 (ty xt id e len cap:Nat) (kk:IntKind) (n:Int):qfh P s k ty xt (.slc id e len cap) (.int kk n)=if 0≤n then qdA P s k ty xt id e len cap n.toNat else none:=rfl
@[simp] theorem quf (ty xt id e len cap i2 e2 l2:Nat):qfh P s k ty xt (.slc id e len cap) (.sl i2 e2 l2)=qcG P s k ty xt id e len cap (.sl i2 e2 l2):=rfl
@[simp] theorem qs1 (ty xt id e len cap i2 e2 l2 c2:Nat):qfh P s k ty xt (.slc id e len cap) (.slc i2 e2 l2 c2)=qcG P s k ty xt id e len cap (.slc i2 e2 l2 c2):=rfl
@[simp] theorem qs2 (ty xt id e len cap sz:Nat) (els:List (List AV)):qfh P s k ty xt (.slc id e len cap) (.lst sz els)=qcG P s k ty xt id e len cap (.lst sz els):=rfl
@[simp] theorem qzE (ty xt sz:Nat) (els:List (List AV)) (y:AV):qfh P s k ty xt (.lst sz els) y=qb3 P s k ty xt (.lst sz els) y:=rfl
@[simp] theorem qxq (ty xt:Nat) (x y:Operand):qbk P (.call ⟨.builtin .copy,#[x,y],#[ty,xt]⟩) d s K=qeu (qf5 P s d ty (opd s.t x) (opd s.t y)) K:=rfl
@[simp] theorem qvk (ty:Nat) (x:Operand):qbk P (.call ⟨.builtin .clear,#[x],#[ty]⟩) none s K=qeu (qek P s ty (opd s.t x)) K:=rfl
@[simp] theorem qx6 (x:Operand) (ty:Nat):qbk P (.call ⟨.builtin .cap,#[x],#[ty]⟩) d s K=qdb (qro P ty (opd s.t x)) d s K:=by
 show qeu (qfu P ⟨d,.call ⟨.builtin .cap,#[x],#[ty]⟩,0,"",#[],none⟩ s) K=_;rw[qbd];rfl
@[simp] theorem qtM (ty:Nat) (x m:Operand) (lo hi:Option Operand):qbk P (.slice ty x lo hi (some m)) d s K=qdb (qfa P s.h ty (opd s.t x) (lo.map (opd s.t)) (hi.map (opd s.t)) (opd s.t m)) d s K:=by
 show qeu (qfu P ⟨d,.slice ty x lo hi (some m),0,"",#[],none⟩ s) K=_;rw[qbd];rfl
@[simp] theorem qxr (x:Operand) (args:Array Operand) (tys:Array Nat):qbk P (.call ⟨.value x,args,tys⟩) d s K=ql5 P (opd s.t x) (args.toList.map (opd s.t)) d s K:=rfl
@[simp] theorem qzZ (f:Nat) (cap args:List AV):ql5 P (.fn f cap) args d s K=qiX P f (args++cap) d s K:=rfl
attribute [simp] qf5 qek qro qfa qcG qdA qvs qg4 qfo qce qcu qcn qgL qiz qo2 qs0 qsZ qo4 qxC qCc qwK qzD qdL qfG qel qku qbt qfn qfF qb3 qgN qd8 qbh TD.agg qe2 qie qlQ qj3 qj4 qaY bOf isC splice
@[simp] theorem qAy (k:IntKind) (n:Int):qde (.int k n)=true:=rfl
@[simp] theorem qyZ (b:Bool):qde (.bool b)=true:=rfl
@[simp] theorem qAu (b:List UInt8):qde (.str b)=true:=rfl
@[simp] theorem qyX:qde .nilp=true:=rfl
@[simp] theorem qyW:qde .nils=true:=rfl
@[simp] theorem qyY:qde .nili=true:=rfl
@[simp] theorem qAz:qde .ifc=true:=rfl
@[simp] theorem qAw (a b c:Nat):qde (.ptr a b c)=true:=rfl
@[simp] theorem qBJ (a b c:Nat):qde (.sl a b c)=true:=rfl
@[simp] theorem qAv (a b c e:Nat):qde (.slc a b c e)=true:=rfl
@[simp] theorem qAx (a:Nat) (b:List (List AV)):qde (.lst a b)=true:=rfl
@[simp] theorem qAA (b:List AV):qde (.elm b)=true:=rfl
@[simp] theorem qBK (f:Nat) (b:List AV):qde (.fn f b)=true:=rfl
attribute [simp] qlS qfm qoD qua
@[simp] theorem qzJ:qiU P K [] s=K s:=rfl
@[simp] theorem qxF (o:DOper) (r:List DOper):qiU P K (o::r) s=(frA P o.fr s∧qfj P o s (qiU P K r)):=rfl
@[simp] theorem qB7:frA P [] s=True:=rfl
@[simp] theorem qAO (k:Nat) (op:Op) (r:List (Nat×Op)):frA P ((k,op)::r) s=((qeu (opS P ⟨some k,op,0,"",#[],none⟩ s) (fun _=>True)∧s.h k=none)∧frA P r s):=rfl
@[simp] theorem qyU (ty:Nat):opS P ⟨some k,.alloc ty,0,"",#[],none⟩ s=qel P s k ty:=rfl
@[simp] theorem qBI (ty:Nat) (x:Operand):opS P ⟨some k,.box ty x,0,"",#[],none⟩ s=qku P s k ty (opd s.t x):=rfl
@[simp] theorem qrT (ty len:Nat) (parts:Array (Nat×Operand)):opS P ⟨some k,.buildSlice ty len parts,0,"",#[],none⟩ s=qbt P s k ty len (parts.toList.map fun x=>(x.1,opd s.t x.2)):=rfl
@[simp] theorem qsy (ty:Nat) (x y:Operand):opS P ⟨some k,.makeSlice ty x y,0,"",#[],none⟩ s=qfn P s k ty (opd s.t x) (opd s.t y):=rfl
@[simp] theorem qwB (op:Op) (rd av:List Nat) (fr:List (Nat×Op)):qfj P ⟨⟨none,d,op⟩,rd,av,fr⟩ s K=qb6 P rd av op d s K:=rfl
def gdD (P:Program) (g:Nat) (want:Bool) (rd av:List Nat) (op:Op) (d:Option Nat) (s:S) (K:S→Prop):AV→Prop
 | .bool b=>(b=want→qb6 P rd av op d ⟨upd s.t g (.bool want),s.h,s.u⟩ K)∧(b=(!want)→K ⟨qcw (upd s.t g (.bool (!want))) d (.tup []),s.h,s.u⟩)
 | .tup _=>K ⟨qcw s.t d (.tup []),s.h,s.u⟩
 | _=>False
@[simp] theorem qwA (g:Nat) (want:Bool) (op:Op) (rd av:List Nat) (fr:List (Nat×Op)):qfj P ⟨⟨some (g,want),d,op⟩,rd,av,fr⟩ s K=gdD P g want rd av op d s K (s.t g):=by
 simp only[qfj,gdD];cases hv:s.t g <;> try rfl
 rename_i b;simp only;cases b <;> cases want <;> simp[qng _ _ _ hv]
@[simp] theorem qCB (g:Nat) (op:Op) (rd av:List Nat):gdD P g true rd av op d s K (.bool true)=qb6 P rd av op d ⟨upd s.t g (.bool true),s.h,s.u⟩ K:=by simp[gdD]
@[simp] theorem qCE (g:Nat) (op:Op) (rd av:List Nat):gdD P g false rd av op d s K (.bool false)=qb6 P rd av op d ⟨upd s.t g (.bool false),s.h,s.u⟩ K:=by simp[gdD]
@[simp] theorem qCC (g:Nat) (op:Op) (rd av:List Nat):gdD P g true rd av op d s K (.bool false)=K ⟨qcw (upd s.t g (.bool false)) d (.tup []),s.h,s.u⟩:=by simp[gdD]
@[simp] theorem qCD (g:Nat) (op:Op) (rd av:List Nat):gdD P g false rd av op d s K (.bool true)=K ⟨qcw (upd s.t g (.bool true)) d (.tup []),s.h,s.u⟩:=by simp[gdD]
@[simp low] theorem qAH (g:Nat) (want b:Bool) (op:Op) (rd av:List Nat):gdD P g want rd av op d s K (.bool b)=((b=want→qb6 P rd av op d ⟨upd s.t g (.bool want),s.h,s.u⟩ K)∧(b=(!want)→K ⟨qcw (upd s.t g (.bool (!want))) d (.tup []),s.h,s.u⟩)):=rfl
@[simp] theorem qB4 (g:Nat) (want:Bool) (l:List AV) (op:Op) (rd av:List Nat):gdD P g want rd av op d s K (.tup l)=K ⟨qcw s.t d (.tup []),s.h,s.u⟩:=rfl
@[simp] theorem qAc (rd:List Nat) (h:Hp) (id:Nat):qqf rd h id=if rd.contains id then h id else none:=rfl
attribute [simp] qhc
@[simp] theorem qxj (rd av:List Nat) (ty:Nat) (a:Operand):qb6 P rd av (.load ty a) d s K=qdb (qfo P (qqf rd s.h) ty (opd s.t a)) d s K:=by
 show qdb _ d s K=_;rfl
@[simp] theorem qve (rd av:List Nat) (ty:Nat) (parts:Array (Nat×Operand)):qb6 P rd av (.build ty parts) d s K=qdb (qgN P ty (parts.toList.map fun x=>(x.1,opd s.t x.2))) d s K:=by
 show qdb _ d s K=_;rfl
@[simp] theorem qxh (rd av:List Nat) (c a b:Operand):qb6 P rd av (.pick c a b) d s K=qdb (qrn (opd s.t c) (opd s.t a) (opd s.t b)) d s K:=by
 show qdb _ d s K=_;rfl
@[simp] theorem qrO (rd av:List Nat) (x:Operand):qb6 P rd av (.nilCheck x) d s K=qdb (qCc (opd s.t x)) d s K:=by
 show qdb _ d s K=_;rfl
@[simp] theorem qvf (rd av:List Nat) (op:BinOp) (xt:Nat) (x y:Operand) (yt:Nat):qb6 P rd av (.binOp op xt x y yt) d s K=qdb (qo4 P op xt x y (opd s.t x) (opd s.t y)) d s K:=by
 show qdb _ d s K=_;rfl
@[simp] theorem qxg (rd av:List Nat) (op:UnOp) (xt:Nat) (x:Operand):qb6 P rd av (.unOp op xt x) d s K=qdb (qxC op (opd s.t x)) d s K:=by
 show qdb _ d s K=_;rfl
@[simp] theorem qr9 (rd av:List Nat) (a b:Nat) (x:Operand):qb6 P rd av (.convert a b x) d s K=qdb (qdL P (qqf rd s.h) a b (opd s.t x)) d s K:=by
 show qdb _ d s K=_;rfl
@[simp] theorem qvc (rd av:List Nat) (ty:Nat) (x:Operand) (lo hi:Option Operand):qb6 P rd av (.slice ty x lo hi none) d s K=qdb (qcn P (qqf rd s.h) ty (opd s.t x) (lo.map (opd s.t)) (hi.map (opd s.t))) d s K:=by
 show qdb _ d s K=_;rfl
@[simp] theorem qpN (rd av:List Nat) (ty:Nat) (x:Operand) (f:Nat):qb6 P rd av (.fieldAddr ty x f) d s K=qdb (qce P ty f (opd s.t x)) d s K:=by
 show qdb _ d s K=_;rfl
@[simp] theorem qpM (rd av:List Nat) (ty:Nat) (x i:Operand):qb6 P rd av (.indexAddr ty x i) d s K=qdb (qcu P (qqf rd s.h) ty (opd s.t x) (opd s.t i)) d s K:=by
 show qdb _ d s K=_;rfl
@[simp] theorem qvd (rd av:List Nat) (ty:Nat) (x i:Operand):qb6 P rd av (.index ty x i) d s K=qdb (qgL P ty (opd s.t x) (opd s.t i)) d s K:=by
 show qdb _ d s K=_;rfl
@[simp] theorem qr8 (rd av:List Nat) (x:Operand) (ix:Nat):qb6 P rd av (.extract x ix) d s K=qdb (qwK (opd s.t x) ix) d s K:=by
 show qdb _ d s K=_;rfl
@[simp] theorem qx2 (rd av:List Nat) (x:Operand) (ty:Nat):qb6 P rd av (.call ⟨.builtin .len,#[x],#[ty]⟩) d s K=qdb (qo2 P ty (opd s.t x)) d s K:=by
 show qdb _ d s K=_;rfl
@[simp] theorem qxi (rd av:List Nat) (x:Operand):qb6 P rd av (.move x) d s K=K ⟨qcw s.t d (opd s.t x),s.h,s.u⟩:=by
 show qdb (some (True,opd s.t x)) d s K=_;simp[qdb]
@[simp] theorem qtK (rd av:List Nat) (x:Operand):qb6 P rd av (.assign x) d s K=K ⟨qcw s.t d (opd s.t x),s.h,s.u⟩:=by
 show qdb (some (True,opd s.t x)) d s K=_;simp[qdb]
@[simp] theorem qvg (rd av:List Nat) (ty:Nat):qb6 P rd av (.alloc ty) d s K=qbk P (.alloc ty) d s (fun s'=>qhc av s.h s'.h∧K s'):=rfl
@[simp] theorem qx3 (rd av:List Nat) (ty:Nat) (x:Operand):qb6 P rd av (.box ty x) d s K=qbk P (.box ty x) d s (fun s'=>qhc av s.h s'.h∧K s'):=rfl
@[simp] theorem qph (rd av:List Nat) (ty len:Nat) (parts:Array (Nat×Operand)):qb6 P rd av (.buildSlice ty len parts) d s K=qbk P (.buildSlice ty len parts) d s (fun s'=>qhc av s.h s'.h∧K s'):=rfl
@[simp] theorem qpL (rd av:List Nat) (ty:Nat) (x y:Operand):qb6 P rd av (.makeSlice ty x y) d s K=qbk P (.makeSlice ty x y) d s (fun s'=>qhc av s.h s'.h∧K s'):=rfl
@[simp] theorem qvb (rd av:List Nat) (ty:Nat) (x y:Operand):qb6 P rd av (.store ty x y) d s K=qbk P (.store ty x y) d s (fun s'=>qhc av s.h s'.h∧K s'):=rfl
@[simp] theorem qtL (av:List Nat) (args:Array Operand) (tys:Array Nat):qb6 P [] av (.call ⟨.builtin .append,args,tys⟩) d s K=qbk P (.call ⟨.builtin .append,args,tys⟩) d s (fun s'=>qhc av s.h s'.h∧K s'):=by
 show((rdG []=true→_)∧_)=_;simp[rdG]
def qAI (rd:List Nat) (x y:AV):Prop:=(match x with | .sl id _ _=>(rd.drop 1).contains id=true | _=>False)∧(match y with | .lst _ _=>True | _=>False)
@[simp] theorem qB5 (rd:List Nat) (id e len sz:Nat) (els:List (List AV)):qAI rd (.sl id e len) (.lst sz els)=((rd.drop 1).contains id=true):=by simp[qAI]
@[simp] theorem qsa (rd av:List Nat) (x y:Operand) (tys:Array Nat):qb6 P (0::rd) av (.call ⟨.builtin .append,#[x,y],tys⟩) d s K=(qAI (0::rd) (opd s.t x) (opd s.t y)∧qbk P (.call ⟨.builtin .append,#[x,y],tys⟩) d s (fun s'=>qhc av s.h s'.h∧K s')):=by
 have h:gOk (0::rd) (.call ⟨.builtin .append,#[x,y],tys⟩) s.t=qAI (0::rd) (opd s.t x) (opd s.t y):=rfl;show((rdG (0::rd)=true→gOk (0::rd) (.call ⟨.builtin .append,#[x,y],tys⟩) s.t)∧_)=_;rw[h];simp only[rdG,true_implies]
@[simp] theorem qxk (rd av:List Nat) (args:Array Operand) (tys:Array Nat):qb6 P rd av (.call ⟨.builtin .copy,args,tys⟩) d s K=qbk P (.call ⟨.builtin .copy,args,tys⟩) d s (fun s'=>qhc av s.h s'.h∧K s'):=rfl
@[simp] theorem qxl (rd av:List Nat) (x:Operand) (args:Array Operand) (tys:Array Nat):qb6 P rd av (.call ⟨.value x,args,tys⟩) d s K=qbk P (.call ⟨.value x,args,tys⟩) d s (fun s'=>qhc av s.h s'.h∧K s'):=rfl
def qz3 (op:BinOp) (k:IntKind) (x y:Int):Int :=
 match qjH op k x y with
 | some n=>n
 | none=>0
@[simp] theorem qxJ (k:IntKind) (x y:Int):qjH .xor k x y=some (qz3 .xor k x y):=rfl
@[simp] theorem qxK (k:IntKind) (x y:Int):qjH .and k x y=some (qz3 .and k x y):=rfl
@[simp] theorem qz2 (k:IntKind) (x y:Int):qjH .or k x y=some (qz3 .or k x y):=rfl
attribute [simp] ren qch rho qnM
theorem qkZ (N:S→Prop) (Q:Exit→S→Prop):qff N Q .normal s=N s:=rfl
theorem qov (N:S→Prop) (Q:Exit→S→Prop) (i:Nat):qff N Q (.exit i) s=Q (.exit i) s:=rfl
theorem qpF (N:S→Prop) (Q:Exit→S→Prop):qff N Q .ret s=Q .ret s:=rfl
theorem qkN (i:Nat) (Q:Exit→S→Prop):qfs i Q .normal s=Q .normal s:=rfl
theorem qo8 (i:Nat) (Q:Exit→S→Prop):qfs i Q .ret s=Q .ret s:=rfl
theorem qm6 (i j:Nat) (Q:Exit→S→Prop):qfs i Q (.exit j) s=if j=i then Q .normal s else Q (.exit j) s:=rfl
attribute [simp] qkZ qov qpF qkN qo8 qm6
end
end Go.Av
end
