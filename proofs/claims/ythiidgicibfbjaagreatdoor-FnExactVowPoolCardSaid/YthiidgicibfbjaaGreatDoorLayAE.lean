/- Lemmas for the proof, no statement of the seat; no conditions. -/
import Derived.Test.YthiidgicibfbjaaGreatDoorLayAD
set_option linter.unusedSimpArgs false
set_option linter.unusedVariables false
set_option linter.unnecessarySimpa false
set_option maxRecDepth 100000
set_option maxHeartbeats 400000
section
namespace Go.Av
open Go.RowKit
def isV:Op→Bool
 | .move _ | .assign _ | .pick _ _ _ | .build _ _ | .load _ _ | .nilCheck _ | .binOp _ _ _ _ _ | .unOp _ _ _ | .convert _ _ _ | .makeFunc _ _ _ | .slice _ _ _ _ _ | .fieldAddr _ _ _ | .field _ _ _
 | .indexAddr _ _ _ | .index _ _ _ | .extract _ _=>true
 | .call ⟨.builtin .len,_,_⟩=>true
 | _=>false
def isA:Op→Bool
 | .alloc _ | .box _ _ | .buildSlice _ _ _ | .makeSlice _ _ _=>true
 | _=>false
def isF:Op→Bool
 | .call ⟨.value _,_,_⟩=>true
 | _=>false
def isG:Op→Bool
 | .call ⟨.builtin .append,_,_⟩=>true
 | _=>false
def gOk (rd:List Nat) (op:Op) (t:Tm):Prop :=
 match op with
 | .call ⟨.builtin .append,args,_⟩=>match args.toList with
  | [x,y]=>(match opd t x with | .sl id _ _=>(rd.drop 1).contains id=true | _=>False)∧(match opd t y with | .lst _ _=>True | _=>False)
  | _=>False
 | _=>True
def rdG (rd:List Nat):Bool:=match rd with
 | 0::_=>true
 | _=>false
def qs4 (rd:List Nat) (op:Op):Bool:=isG op && rdG rd
def qre (rd:List Nat) (h:Hp):Hp:=fun id=>if rd.contains id then h id else none
def qhG:List Nat→Hp→Hp→Prop
 | [],_,_=>True
 | id::r,h,h'=>h' id=h id∧qhG r h h'
def aOk (P:Program) (a:Oper) (s:S):Prop:=(match opS P a s with | some (q,_)=>q | none=>False)∧(match a.dst with | some d=>s.h d=none | none=>False)
def qC0 (P:Program):List Oper→S→Prop
 | [],_=>True
 | a::r,s=>aOk P a s∧qC0 P r s
theorem qmS {P:Program} {s:S}:∀ {l:List Oper},qC0 P l s→∀ a∈l,aOk P a s
 | [],_,a,ha=>by simp at ha
 | b::r,h,a,ha=>by
  simp only[qHq]at ha;rcases ha with rfl | ha
  ·exact h.1
  ·exact qmS h.2 a ha
theorem avOk_spec {h h':Hp}:∀ {av:List Nat},qhG av h h'↔∀ id∈av,h' id=h id
 | []=>by simp[qhG]
 | id::r=>by simp[qhG,avOk_spec (av:=r)]
structure Itm where
 k:Nat
 rd:List Nat
 av:List Nat
 fr:List Nat
 B:List Nat
deriving DecidableEq,Inhabited
def qBv (ops:Array Oper) (fr:List Nat):List Oper:=fr.filterMap fun i=>ops[i]?
def qd5 (P:Program) (n:Nat) (ops:Array Oper) (it:Itm) (o:Oper) (s:S) (K:S→Prop):Prop :=
 if isV o.op=true then
  match qbh P s.t (qre it.rd s.h) o with
  | some (p,v)=>p∧(match o.dst with | some d=>d<n | none=>True)∧K ⟨qcC s.t o.dst v,s.h,s.u⟩
  | none=>False
 else match o.op with
  | .call ⟨.value x,args,_⟩=>qjr P n (opd s.t x) (args.toList.map (opd s.t)) o.dst s (fun s'=>qhG it.av s.h s'.h∧K s')
  | _=>(qs4 it.rd o.op=true→gOk it.rd o.op s.t)∧qhZ n o.dst (opS P o s) (fun s'=>qhG it.av s.h s'.h∧K s')
def qfV (ops:Array Oper) (o:Oper) (t:Tm):Option Bool :=
 match o.guard with
 | none=>some true
 | some (g,want)=>match (ops[g]?).bind (·.dst)with
  | some d=>match t d with
   | .bool b=>some (b == want)
   | .tup _=>some false
   | _=>none
  | none=>none
def qaG (P:Program) (n:Nat) (ops:Array Oper) (it:Itm) (o:Oper) (s:S) (K:S→Prop):Prop :=
 match qfV ops o s.t with
 | some true=>qd5 P n ops it o s K
 | some false=>(match o.dst with | some d=>d<n | none=>True)∧K ⟨qcC s.t o.dst (.tup []),s.h,s.u⟩
 | none=>False
section
variable {P:Program} {n:Nat} {ops:Array Oper} {s:S} {t t':Tm} {h h':Hp} {K K':S→Prop}
def qdM (ops:Array Oper) (o:Oper) (t t':Tm):Prop:=∀ i∈o.looksAt ops,t' i=t i
theorem qdJ {o:Oper} (ha:qdM ops o t t') {x:Operand} (hx:x∈o.op.operands.toList):opd t' x=opd t x:=by
 cases x with
 | tmp i =>
  refine ha i ?_;unfold Oper.looksAt;exact qHv _ (List.mem_filterMap.2 ⟨_,hx,rfl⟩)
 | _=>rfl
theorem qeE {o:Oper} (ha:qdM ops o t t'):qfV ops o t'=qfV ops o t:=by
 unfold qfV;cases hg:o.guard with
 | none=>rfl
 | some gw =>
  obtain⟨g,want⟩:=gw;simp only;cases hd:(ops[g]?).bind (·.dst)with
  | none=>rfl
  | some d =>
   simp only;have:t' d=t d:=ha d (by unfold Oper.looksAt;simp[hg,hd]);rw[this]
theorem qeF {o:Oper} (ha:qdM ops o t t'):qbh P t' h o=qbh P t h o:=by
 obtain⟨dst,op,ty,pos,after,guard⟩:=o;have hop:∀ x,x∈op.operands.toList→opd t' x=opd t x:=fun x hx=>qdJ ha hx;cases op with
 | move x=>simp only[qbh,hop x (by simp[Op.operands])]
 | assign x=>simp only[qbh,hop x (by simp[Op.operands])]
 | pick c a b=>simp only[qbh,hop c (by simp[Op.operands]),hop a (by simp[Op.operands]),hop b (by simp[Op.operands])]
 | build ty parts =>
  simp only[qbh]
  congr 1
  refine qGD fun x hx=>?_;rw[hop x.2 (by simp only[Op.operands,qGt];exact⟨x,hx,rfl⟩)]
 | load ty a=>simp only[qbh,hop a (by simp[Op.operands])]
 | nilCheck x=>simp only[qbh,hop x (by simp[Op.operands])]
 | binOp op xt x y yt=>simp only[qbh,hop x (by simp[Op.operands]),hop y (by simp[Op.operands])]
 | unOp op xt x=>simp only[qbh,hop x (by simp[Op.operands])]
 | convert a b x=>simp only[qbh,hop x (by simp[Op.operands])]
 | makeFunc fn first cap =>
  cases fn with
  | func f =>
   simp only[qbh];have:cap.toList.map (opd t')=cap.toList.map (opd t):=qGD fun x hx=>hop x (by simp[Op.operands];exact .inr (by simpa using hx));rw[this]
  | _=>rfl
 | slice ty x lo hi mx =>
  have e1:lo.map (opd t')=lo.map (opd t):=by
   cases lo with
   | none=>rfl
   | some y=>simp[hop y (by simp[Op.operands])]
  have e2:hi.map (opd t')=hi.map (opd t):=by
   cases hi with
   | none=>rfl
   | some y=>simp[hop y (by simp[Op.operands])]
  cases mx with
  | none=>simp only[qbh,hop x (by simp[Op.operands]),e1,e2]
  | some m=>simp only[qbh,hop x (by simp[Op.operands]),e1,e2,hop m (by simp[Op.operands])]
 | fieldAddr s x f=>simp only[qbh,hop x (by simp[Op.operands])]
 | field s x f=>simp only[qbh,hop x (by simp[Op.operands])]
 | indexAddr ty x i=>simp only[qbh,hop x (by simp[Op.operands]),hop i (by simp[Op.operands])]
 | index ty x i=>simp only[qbh,hop x (by simp[Op.operands]),hop i (by simp[Op.operands])]
 | extract x ix=>simp only[qbh,hop x (by simp[Op.operands])]
 | call c =>
  obtain⟨callee,args,tys⟩:=c;have hq:∀ x,x∈args.toList→opd t' x=opd t x:=fun x hx=>hop x (by simp[Op.operands,Call.operands];exact .inr (by simpa using hx));cases callee with
  | builtin b =>
   cases b <;> simp only[qbh] <;> (generalize hl:args.toList=l at hq ⊢;generalize tys.toList=m;match l,m,hq with
    | [],_,_=>rfl
    | [x],[],hq=>rfl
    | [x],[_],hq=>first | rfl | simp only[hq x (by simp)]
    | [x],_::_::_,hq=>rfl
    | [x,y],_,hq=>first | rfl | simp only[hq x (by simp),hq y (by simp)]
    | _::_::_::_,_,_=>rfl)
  | _=>rfl
 | _=>rfl
theorem qpV (hm:∀ id o,h id=some o→h' id=some o) {o:Oper} {p:Prop} {v:AV} (he:qbh P t h o=some (p,v)):qbh P t h' o=some (p,v):=by
 obtain⟨dst,op,ty,pos,after,guard⟩:=o;cases op with
 | load ty a =>
  simp only[qbh]at he ⊢;generalize opd t a=x at he ⊢;cases x <;> simp only[qfF]at he ⊢ <;> try exact he
  rename_i id e off;cases hid:h id with
  | none=>simp[hid]at he
  | some ob=>rw[hm _ _ hid];rw[hid]at he;exact he
 | convert a b x =>
  simp only[qbh]at he ⊢;generalize opd t x=y at he ⊢;cases y <;> simp only[qdS]at he ⊢ <;> try exact he
  rename_i id e off;cases hid:h id with
  | none=>simp[hid]at he
  | some ob=>rw[hm _ _ hid];rw[hid]at he;exact he
 | slice ty x lo hi mx =>
  cases mx with
  | some m =>
   simp only[qbh]at he ⊢;unfold qfq at he ⊢;split at he
   ·split at he
    ·split at he
     ·generalize opd t x=y at he ⊢;cases y <;> simp only at he ⊢ <;> try exact he
      all_goals
       split at he
       ·rename_i o ho;rw[hm _ _ ho];exact he
       ·cases he
     ·cases he
    ·cases he
   ·cases he
  | none =>
   simp only[qbh]at he ⊢;generalize opd t x=y at he ⊢;cases y <;> simp only[qcr]at he ⊢ <;> try exact he
   ·rename_i id e len;cases hid:h id with
    | none =>
     rw[hid]at he;split at he
     ·split at he
      ·rename_i h2;cases h2
      ·cases he
     ·cases he
    | some ob=>rw[hm _ _ hid];rw[hid]at he;exact he
   ·rename_i id e len cap;cases hid:h id with
    | none =>
     rw[hid]at he;split at he
     ·split at he
      ·rename_i h2;cases h2
      ·cases he
     ·cases he
    | some ob=>rw[hm _ _ hid];rw[hid]at he;exact he
 | indexAddr ty x i =>
  simp only[qbh]at he ⊢;generalize opd t x=y at he ⊢;generalize opd t i=z at he ⊢;cases z <;> simp only[qcz]at he ⊢ <;> try exact he
  cases hty:qaA P ty with
  | none=>simp[hty]at he
  | some ti =>
   simp only[hty]at he ⊢;obtain⟨td,s1,s2,s3⟩:=ti;cases td <;> cases y <;> simp only at he ⊢ <;> try exact he
   ·rename_i id e len;cases hid:h id with
    | none=>simp[hid]at he
    | some ob=>rw[hm _ _ hid];rw[hid]at he;exact he
   ·rename_i id e len cap;cases hid:h id with
    | none=>simp[hid]at he
    | some ob=>rw[hm _ _ hid];rw[hid]at he;exact he
 | makeFunc fn first cap=>cases fn <;> exact he
 | call c =>
  obtain⟨callee,args,tys⟩:=c;cases callee with
  | builtin b=>cases b <;> exact he
  | _=>exact he
 | _=>exact he
def qd0 (k:Nat) (v:AV) (r:Option (Prop×S)):Option (Prop×S):=r.map fun r=>(r.1,⟨upd r.2.t k v,r.2.h,r.2.u⟩)
theorem qdg {d k:Nat} {v x:AV} {sz:Nat} {els:List (List AV)} {u:Us} (hd:d≠k):qbm d ⟨upd t k v,h,u⟩ sz els x=⟨upd (qbm d ⟨t,h,u⟩ sz els x).t k v,(qbm d ⟨t,h,u⟩ sz els x).h,(qbm d ⟨t,h,u⟩ sz els x).u⟩:=by
 simp only[qbm,qcw t v x (qFL hd)]
theorem qmB {d k e1 e2:Nat} {v:AV} {u:Us} (hd:d≠k) (a b:AV):qb8 P ⟨upd t k v,h,u⟩ d e1 e2 a b=qd0 k v (qb8 P ⟨t,h,u⟩ d e1 e2 a b):=by
 unfold qb8;generalize qaA P e1=T1;generalize qaA P e2=T2;cases T1 with
 | none=>rfl
 | some i1 =>
 cases T2 with
 | none=>obtain⟨td1,_,_,_⟩:=i1;cases td1 <;> rfl
 | some i2 =>
 obtain⟨td1,_,_,_⟩:=i1;obtain⟨td2,_,_,_⟩:=i2;cases td1 <;> try rfl
 rename_i e0;cases td2 <;> try rfl
 simp only;generalize qaA P e0=A;generalize qa4 h b=B;cases A with
 | none=>simp[qd0]
 | some ie =>
  cases B with
  | none=>simp[qd0]
  | some r =>
   obtain⟨q,sz,ys⟩:=r;cases a <;> simp only <;> try (simp[qd0];done)
   ·simp[qd0,qdg (hd)]
   ·split
    ·rename_i ob _;simp[qd0,qcw t v _ (qFL (hd))]
    ·simp[qd0]
theorem qsr {d k e1 e2:Nat} {v:AV} {u:Us} (hd:d≠k) (a b:AV):qfx P ⟨upd t k v,h,u⟩ d e1 e2 a b=qd0 k v (qfx P ⟨t,h,u⟩ d e1 e2 a b):=by
 unfold qfx;generalize ha:a=a';generalize hb:b=b';split
 ·split
  ·unfold qdH;generalize qaA P e1=T1;generalize qaA P e2=T2;split
   ·rename_i id _ _ _ _ _ _ _ _ e _ _ _ _ _ _ _
    dsimp only
    generalize qaA P e=T3;generalize h id=O;cases T3 <;> cases O <;> simp[qd0,qdg hd]
   ·simp[qd0]
  ·simp[qd0]
 ·rename_i id _ _ _ _;unfold qcM;generalize qaA P e1=T1;generalize qaA P e2=T2;split
  ·rename_i e _ _ _ _ _ _ _
   dsimp only
   generalize qaA P e=T3;generalize h id=O;generalize qa4 h b'=B;cases T3 <;> cases B <;> cases O <;> try (simp[qd0];done)
   simp only;split
   ·simp[qd0,qcw t v _ (qFL hd)]
   ·simp[qd0,qdg hd]
  ·simp[qd0]
 ·exact qmB hd _ _
theorem qpY {d:Option Nat} {k e1:Nat} {v:AV} {u:Us} (hd:∀ x,d=some x→x≠k) (a b:AV):qgr P ⟨upd t k v,h,u⟩ d e1 a b=qd0 k v (qgr P ⟨t,h,u⟩ d e1 a b):=by
 unfold qgr;generalize qaA P e1=T1;split
 ·rename_i e _ _ _
  dsimp only
  generalize qaA P e=T3;generalize qa4 h b=B;generalize qwQ a=A;cases T3 <;> cases B <;> cases A <;> try (simp[qd0];done)
  rename_i A;obtain⟨id,e0,len⟩:=A
  dsimp only
  generalize h id=O;cases O
  ·simp[qd0]
  ·cases d with
   | none=>simp[qd0,qcC]
   | some x=>simp[qd0,qcC,qcw t v _ (qFL (hd x rfl))]
 ·simp[qd0]
theorem qny {k e1:Nat} {v:AV} {u:Us} (a:AV):qew P ⟨upd t k v,h,u⟩ e1 a=qd0 k v (qew P ⟨t,h,u⟩ e1 a):=by
 unfold qew;generalize qaA P e1=T1;split
 ·rename_i e _ _ _
  dsimp only
  generalize qaA P e=T3;generalize qwQ a=A;cases T3 <;> cases A <;> try (simp[qd0];done)
  rename_i A;obtain⟨id,e0,len⟩:=A
  dsimp only
  generalize h id=O;cases O <;> simp[qd0]
 ·simp[qd0]
theorem qxw {o:Oper} {k:Nat} {v:AV} {u:Us} (ha:qdM ops o t (upd t k v)) (hd:o.dst≠some k):opS P o ⟨upd t k v,h,u⟩=qd0 k v (opS P o ⟨t,h,u⟩):=by
 have hv:qfN P o ⟨upd t k v,h,u⟩=qd0 k v (qfN P o ⟨t,h,u⟩):=by
  unfold qfN;simp only[qeF ha];cases qbh P t h o with
  | none=>rfl
  | some r =>
   obtain⟨p,x⟩:=r;simp only[qd0,qFX];cases hx:o.dst with
   | none=>rfl
   | some d=>simp only[qcC];rw[qcw t v x (by rintro rfl;exact hd hx)]
 have hev:=qeF (P:=P) (h:=h) ha;obtain⟨dst,op,ty,pos,after,guard⟩:=o;have hop:∀ x,x∈op.operands.toList→opd (upd t k v) x=opd t x:=fun x hx=>qdJ ha hx;have hdd:∀ d,dst=some d→d≠k:=fun d h1 h2=>hd (by simp[h1,h2]);cases op with
 | alloc e =>
  cases dst with
  | none=>rfl
  | some d =>
   simp only[opS,qex];split <;> simp[qd0,qdg (hdd d rfl)]
 | box e x =>
  cases dst with
  | none=>rfl
  | some d =>
   simp only[opS,qk2,hop x (by simp[Op.operands])];split <;> simp[qd0,qdg (hdd d rfl)]
 | buildSlice e len parts =>
  cases dst with
  | none=>rfl
  | some d =>
   have:(parts.toList.map fun x=>(x.1,opd (upd t k v) x.2))=parts.toList.map fun x=>(x.1,opd t x.2):=qGD fun x hx=>by
    rw[hop x.2 (by simp only[Op.operands,qGt];exact⟨x,hx,rfl⟩)]
   simp only[opS,qby,this];split
   ·split
    ·split <;> simp[qd0,qdg (hdd d rfl)]
    ·simp[qd0]
   ·simp[qd0]
 | makeSlice e x y =>
  cases dst with
  | none=>rfl
  | some d =>
   simp only[opS,hop x (by simp[Op.operands]),hop y (by simp[Op.operands])];generalize opd t x=a;generalize opd t y=b;cases a <;> cases b <;> simp only[qfE] <;> try (simp[qd0];done)
   split
   ·split <;> simp[qd0,qdg (hdd d rfl)]
   ·simp[qd0]
 | store e x y =>
  cases dst with
  | some d=>rfl
  | none =>
   simp only[opS,hop x (by simp[Op.operands]),hop y (by simp[Op.operands])];generalize opd t x=a;cases a <;> simp only[qfX] <;> try (simp[qd0];done)
   split <;> simp[qd0]
 | convert e1 e2 x =>
  cases dst with
  | none=>rfl
  | some d =>
   simp only[opS,hev,hop x (by simp[Op.operands])];split
   ·rename_i p w _;simp[qd0,qcw t v w (qFL (hdd d rfl))]
   ·generalize opd t x=a;cases a <;> simp only[qfY] <;> try (simp[qd0];done)
    split <;> try (simp[qd0];done)
    split <;> simp[qd0,qdg (hdd d rfl)]
 | call c =>
  obtain⟨callee,args,tys⟩:=c;have hq:∀ x,x∈args.toList→opd (upd t k v) x=opd t x:=fun x hx=>hop x (by simp[Op.operands,Call.operands];exact .inr (by simpa using hx));cases callee with
  | builtin b =>
   cases b
   case append =>
    cases dst with
    | none=>rfl
    | some d =>
     simp only[opS];generalize hl:args.toList=l at hq ⊢;generalize tys.toList=m
     match l,m,hq with
     | [x,y],[e1,e2],hq =>
      simp only[hq x (by simp),hq y (by simp)];exact qsr (hdd d rfl) _ _
     | [],_,_=>rfl
     | [_],_,_=>rfl
     | _::_::_::_,_,_=>rfl
     | [_,_],[],_=>rfl
     | [_,_],[_],_=>rfl
     | [_,_],_::_::_::_,_=>rfl
   case copy =>
    simp only[opS];generalize hl:args.toList=l at hq ⊢;generalize tys.toList=m
    match l,m,hq with
    | [x,y],[e1,e2],hq =>
     simp only[hq x (by simp),hq y (by simp)];exact qpY hdd _ _
    | [],_,_=>rfl
    | [_],_,_=>rfl
    | _::_::_::_,_,_=>rfl
    | [_,_],[],_=>rfl
    | [_,_],[_],_=>rfl
    | [_,_],_::_::_::_,_=>rfl
   case clear =>
    cases dst with
    | some d=>rfl
    | none =>
     simp only[opS];generalize hl:args.toList=l at hq ⊢;generalize tys.toList=m
     match l,m,hq with
     | [x],[e1],hq =>
      simp only[hq x (by simp)];exact qny _
     | [],_,_=>rfl
     | [_],[],_=>rfl
     | [_],_::_::_,_=>rfl
     | _::_::_,_,_=>rfl
   all_goals exact hv
  | _=>exact hv
 | _=>exact hv
theorem qDS {o:Oper} {p:Prop} {s':S} (he:opS P o s=some (p,s')):∃ v,s'.t=qcC s.t o.dst v:=by
 have hv:qfN P o s=some (p,s')→∃ v,s'.t=qcC s.t o.dst v:=fun he=>by
  unfold qfN at he;split at he
  ·injection he with he;injection he with _ e2;subst e2;exact⟨_,rfl⟩
  ·cases he
 unfold opS at he;split at he
 ·rename_i h1;rw[h1];unfold qex at he;split at he
  ·injection he with he;injection he with _ e2;subst e2;exact⟨_,rfl⟩
  ·cases he
 ·cases he
 ·rename_i h1;rw[h1];unfold qk2 at he;split at he
  ·injection he with he;injection he with _ e2;subst e2;exact⟨_,rfl⟩
  ·cases he
 ·cases he
 ·rename_i h1;rw[h1];unfold qby at he;split at he
  ·split at he
   ·split at he
    ·injection he with he;injection he with _ e2;subst e2;exact⟨_,rfl⟩
    ·cases he
   ·cases he
  ·cases he
 ·cases he
 ·rename_i h1;rw[h1];unfold qfE at he;split at he
  ·split at he
   ·split at he
    ·injection he with he;injection he with _ e2;subst e2;exact⟨_,rfl⟩
    ·cases he
   ·cases he
  ·cases he
 ·cases he
 ·rename_i h1;rw[h1];unfold qfX at he;split at he
  ·split at he
   ·injection he with he;injection he with _ e2;subst e2;exact⟨.top,rfl⟩
   ·cases he
  ·cases he
 ·cases he
 ·rename_i h1;rw[h1];split at he
  ·injection he with he;injection he with _ e2;subst e2;exact⟨_,rfl⟩
  ·unfold qfY at he;split at he
   ·split at he
    ·split at he
     ·injection he with he;injection he with _ e2;subst e2;exact⟨_,rfl⟩
     ·cases he
    ·cases he
   ·cases he
 ·cases he
 ·rename_i h1;rw[h1];split at he
  ·unfold qfx at he;split at he
   ·split at he
    ·unfold qdH at he;split at he
     ·split at he
      ·injection he with he;injection he with _ e2;subst e2;exact⟨_,rfl⟩
      ·cases he
     ·cases he
    ·cases he
   ·unfold qcM at he;split at he
    ·split at he
     ·split at he
      ·injection he with he;injection he with _ e2;subst e2;exact⟨_,rfl⟩
      ·injection he with he;injection he with _ e2;subst e2;exact⟨_,rfl⟩
     ·cases he
    ·cases he
   ·unfold qb8 at he;split at he
    ·split at he
     ·split at he
      ·injection he with he;injection he with _ e2;subst e2;exact⟨_,rfl⟩
      ·split at he
       ·injection he with he;injection he with _ e2;subst e2;exact⟨_,rfl⟩
       ·cases he
      ·cases he
     ·cases he
    ·cases he
  ·cases he
 ·cases he
 ·split at he
  ·unfold qgr at he;split at he
   ·split at he
    ·split at he
     ·injection he with he;injection he with _ e2;subst e2;exact⟨_,rfl⟩
     ·cases he
    ·cases he
   ·cases he
  ·cases he
 ·rename_i h1;rw[h1];split at he
  ·unfold qew at he;split at he
   ·split at he
    ·split at he
     ·injection he with he;injection he with _ e2;subst e2;exact⟨.top,rfl⟩
     ·cases he
    ·cases he
   ·cases he
  ·cases he
 ·cases he
 ·exact hv he
theorem qgQ {t:Tm} {d:Option Nat} {v:AV} {x:Nat} (h:d≠some x):qcC t d v x=t x:=by
 cases d with
 | none=>rfl
 | some k=>exact qay _ _ (by rintro rfl;exact h rfl)
theorem qpG {o:Oper} (hA:isA o.op=true) {p:Prop} {s':S} (he:opS P o s=some (p,s')):∃ d sz els v q0,o.dst=some d∧s'=qbm d s sz els v∧(p↔d ∉ s.u∧q0) ∧
  ∀ s2:S,qdM ops o s.t s2.t→∃ p2,opS P o s2=some (p2,qbm d s2 sz els v)∧(p2↔d ∉ s2.u∧q0):=by
 obtain⟨dst,op,ty,pos,after,guard⟩:=o;have hop:∀ {s2:S},qdM ops ⟨dst,op,ty,pos,after,guard⟩ s.t s2.t→∀ x,x∈op.operands.toList→opd s2.t x=opd s.t x:=fun ha x hx=>qdJ ha hx;cases op <;> simp only[isA,qFY]at hA
 case alloc e =>
  cases dst with
  | none=>cases he
  | some d =>
   simp only[opS,qex]at he ⊢;cases hT:qaA P e with
   | none=>rw[hT]at he;cases he
   | some i =>
    rw[hT]at he;simp only[qFQ,qFR]at he;obtain⟨rfl,rfl⟩:=he;exact⟨d,_,_,_,i.zero.length=i.size∧0<i.size,rfl,rfl,qGH,fun s2 ha=>⟨_,rfl,qGH⟩⟩
 case box e x =>
  cases dst with
  | none=>cases he
  | some d =>
   simp only[opS,qk2]at he ⊢;split at he
   ·rename_i i cs hT hc;simp only[qFQ,qFR]at he;obtain⟨rfl,rfl⟩:=he;refine⟨d,_,_,_,cs.length=i.size∧0<i.size,rfl,rfl,qGH,fun s2 ha=>⟨_,?_,qGH⟩⟩;rw[hop ha x (by simp[Op.operands]),hT,hc]
   ·cases he
 case buildSlice e len parts =>
  cases dst with
  | none=>cases he
  | some d =>
   have hpe:∀ s2:S,qdM ops ⟨some d,.buildSlice e len parts,ty,pos,after,guard⟩ s.t s2.t→(parts.toList.map fun x=>(x.1,opd s2.t x.2))=parts.toList.map fun x=>(x.1,opd s.t x.2):=fun s2 ha=>qGD fun x hx=>by
    rw[hop ha x.2 (by simp only[Op.operands,qGt];exact⟨x,hx,rfl⟩)]
   simp only[opS]at he ⊢;unfold qby at he;split at he
   ·rename_i e0 _ _ _ hT;split at he
    ·rename_i ie hE;split at he
     ·rename_i els hS;simp only[qFQ,qFR]at he;obtain⟨rfl,rfl⟩:=he;refine⟨d,_,_,_,_,rfl,rfl,qGH,fun s2 ha=>⟨_,?_,qGH⟩⟩;rw[hpe s2 ha];simp only[qby,hT,hE,hS]
     ·cases he
    ·cases he
   ·cases he
 case makeSlice e x y =>
  cases dst with
  | none=>cases he
  | some d =>
   simp only[opS]at he ⊢;unfold qfE at he;split at he
   ·rename_i k1 l k2 c hx hy;split at he
    ·rename_i e0 _ _ _ hT;split at he
     ·rename_i ie hE;simp only[qFQ,qFR]at he;obtain⟨rfl,rfl⟩:=he;refine⟨d,_,_,_,_,rfl,rfl,qGH,fun s2 ha=>⟨_,?_,qGH⟩⟩;rw[hop ha x (by simp[Op.operands]),hop ha y (by simp[Op.operands]),hx,hy];simp only[qfE,hT,hE]
     ·cases he
    ·cases he
   ·cases he
theorem qge {d:Option Nat} {r:Option (Prop×S)} (hk:∀ p s',r=some (p,s')→K s'→K' s') (h:qhZ n d r K):qhZ n d r K':=by
 unfold qhZ at *
 split at h
 ·exact⟨h.1,h.2.1,hk _ _ rfl h.2.2⟩
 ·exact h
theorem qhp {v:AV} {args:List AV} {d:Option Nat} (hk:∀ s',(∃ x,s'.t=qcC s.t d x)→K s'→K' s') (h:qjr P n v args d s K):qjr P n v args d s K':=by
 unfold qjr at *
 split at h
 ·obtain⟨h1,h2,hv,pl,argsC,L,R,h3,h4,h5⟩:=h;refine⟨h1,h2,hv,pl,argsC,L,R,h3,h4,fun r L' hr=>?_⟩;obtain⟨φ,h6,h7⟩:=h5 r L' hr;exact⟨φ,h6,hk _ ⟨_,rfl⟩ h7⟩
 ·exact h
def qA4 (it:Itm) (o:Oper) (s s':S):Prop:=(∀ x,o.dst≠some x→s'.t x=s.t x)∧qhG it.av s.h s'.h
theorem qmO {av:List Nat}:qhG av h h:=avOk_spec.2 fun _ _=>rfl
theorem qpt {it:Itm} {o:Oper} (h:qd5 P n ops it o s K):qd5 P n ops it o s (fun s'=>K s'∧qA4 it o s s'):=by
 unfold qd5 at *
 split at h
 ·rename_i hv;rw[if_pos hv];split at h
  ·exact⟨h.1,h.2.1,h.2.2,fun x hx=>qgQ hx,qmO⟩
  ·exact h
 ·rename_i hv;rw[if_neg hv];split at h
  ·exact qhp (fun s' ⟨x,hx⟩ hk=>⟨hk.1,hk.2,fun y hy=>by rw[hx];exact qgQ hy,hk.1⟩) h
  ·refine⟨h.1,qge (fun p s' he hk=>⟨hk.1,hk.2,fun y hy=>?_,hk.1⟩) h.2⟩;obtain⟨x,hx⟩:=qDS he;rw[hx];exact qgQ hy
theorem qnp {it:Itm} {o:Oper} (h:qaG P n ops it o s K):qaG P n ops it o s (fun s'=>K s'∧qA4 it o s s'):=by
 unfold qaG at *
 split at h
 ·exact qpt h
 ·exact⟨h.1,h.2,fun x hx=>qgQ hx,qmO⟩
 ·exact h
theorem qps {it:Itm} {o:Oper} (hk:∀ s,K s→K' s) (h:qd5 P n ops it o s K):qd5 P n ops it o s K':=by
 unfold qd5 at *
 split at h
 ·rename_i hv;rw[if_pos hv];split at h
  ·exact⟨h.1,h.2.1,hk _ h.2.2⟩
  ·exact h
 ·rename_i hv;rw[if_neg hv];split at h
  ·exact qhp (fun s' _ h=>⟨h.1,hk _ h.2⟩) h
  ·exact⟨h.1,qge (fun p s' he h=>⟨h.1,hk _ h.2⟩) h.2⟩
theorem qc0 {it:Itm} {o:Oper} (hk:∀ s,K s→K' s) (h:qaG P n ops it o s K):qaG P n ops it o s K':=by
 unfold qaG at *
 split at h
 ·exact qps hk h
 ·exact⟨h.1,hk _ h.2⟩
 ·exact h
theorem qeU {t:Tm} {d:Option Nat} {k:Nat} {v x:AV} (h:d≠some k):qcC (upd t k v) d x=upd (qcC t d x) k v:=by
 cases d with
 | none=>rfl
 | some j=>exact qcw t v x (by rintro rfl;exact h rfl)
theorem qi0 {o:Oper} {rd:List Nat} (ha:qdM ops o t t'):gOk rd o.op t'↔gOk rd o.op t:=by
 have hop:∀ y,y∈o.op.operands.toList→opd t' y=opd t y:=fun y hy=>qdJ ha hy;unfold gOk;split
 ·rename_i args tys ho;split
  ·rename_i x y hxy;have h1:=hop x (by rw[ho];simp[Op.operands,Call.operands,hxy]);have h2:=hop y (by rw[ho];simp[Op.operands,Call.operands,hxy]);rw[h1,h2]
  ·exact qGH
 ·exact qGH
theorem qvy {op:Op} {rd:List Nat} (h:isA op=true):qs4 rd op=false:=by
 cases op <;> simp[isA]at h <;> rfl
theorem qqL {it:Itm} {o:Oper} {k:Nat} {v:AV} {u:Us} (ha:qdM ops o t (upd t k v)) (hd:o.dst≠some k) (hs:qd5 P n ops it o ⟨upd t k v,h,u⟩ K) :
  qd5 P n ops it o ⟨t,h,u⟩ (fun s'=>K ⟨upd s'.t k v,s'.h,s'.u⟩):=by
 unfold qd5 at *
 split at hs
 ·rename_i hv;rw[if_pos hv];simp only[qeF ha]at hs;split at hs
  ·rename_i p w he;simp only[he];refine⟨hs.1,hs.2.1,?_⟩;have:=hs.2.2;rw[qeU hd]at this;exact this
  ·cases hs
 ·rename_i hv;rw[if_neg hv];split at hs
  ·rename_i x args tys ho;have hop:∀ y,y∈o.op.operands.toList→opd (upd t k v) y=opd t y:=fun y hy=>qdJ ha hy;rw[ho]at hop;have e1:opd (upd t k v) x=opd t x:=hop x (by simp[Op.operands,Call.operands]);have e2:args.toList.map (opd (upd t k v))=args.toList.map (opd t):=qGD fun y hy=>hop y (by simp[Op.operands,Call.operands];exact .inr (by simpa using hy));simp only[e1,e2]at hs;unfold qjr at *
   split at hs
   ·rename_i f cap hx;simp only[hx];obtain⟨h1,h2,hv,pl,argsC,L,R,h3,h4,h5⟩:=hs;refine⟨h1,h2,hv,pl,argsC,L,R,⟨h3.view,h3.mt,h3.nod,h3.obs,h3.keys,h3.liv⟩,h4,fun r L' hr=>?_⟩;obtain⟨φ,h6,h7,h8⟩:=h5 r L' hr;refine⟨φ,⟨h6.lone,h6.nod,h6.new,h6.unu,h6.kin,h6.sub⟩,h7,?_⟩;have e3:qaf ⟨upd t k v,h,u⟩ pl φ o.dst r L'=⟨upd (qaf ⟨t,h,u⟩ pl φ o.dst r L').t k v,(qaf ⟨t,h,u⟩ pl φ o.dst r L').h,(qaf ⟨t,h,u⟩ pl φ o.dst r L').u⟩:=by
     simp only[qaf,qeU hd]
    rw[e3]at h8;exact h8
   ·cases hs
  ·refine⟨fun hm=>(qi0 ha).1 (hs.1 hm),?_⟩;have hs:=hs.2;rw[qxw ha hd]at hs;unfold qhZ qd0 at *
   cases he:opS P o ⟨t,h,u⟩with
   | none=>simp[he]at hs
   | some r=>obtain⟨p,s'⟩:=r;simpa [he]using hs
theorem qpP {it:Itm} {o:Oper} {k:Nat} {v:AV} {u:Us} (ha:qdM ops o t (upd t k v)) (hd:o.dst≠some k) (hs:qaG P n ops it o ⟨upd t k v,h,u⟩ K) :
  qaG P n ops it o ⟨t,h,u⟩ (fun s'=>K ⟨upd s'.t k v,s'.h,s'.u⟩):=by
 unfold qaG at *
 simp only[qeE ha]at hs;split at hs
 ·rename_i hf;simp only[hf];exact qqL ha hd hs
 ·rename_i hf;simp only[hf];refine⟨hs.1,?_⟩;have:=hs.2;rw[qeU hd]at this;exact this
 ·cases hs
theorem qno {it:Itm} {o:Oper} {k:Option Nat} {v:AV} {u:Us} (ha:∀ d,k=some d→d ∉ o.looksAt ops) (hd:∀ d,k=some d→o.dst≠some d) (hs:qaG P n ops it o ⟨qcC t k v,h,u⟩ K) :
  qaG P n ops it o ⟨t,h,u⟩ (fun s'=>K ⟨qcC s'.t k v,s'.h,s'.u⟩):=by
 cases k with
 | none=>exact hs
 | some k=>exact qpP (fun i hi=>qay _ _ (by rintro rfl;exact ha _ rfl hi)) (hd k rfl) hs
theorem qxc {rd:List Nat} (hh:∀ id∈rd,h' id=h id):qre rd h'=qre rd h:=by
 funext id;unfold qre
 by_cases hc:rd.contains id=true
 ·rw[if_pos hc,if_pos hc];exact hh id (by simpa using hc)
 ·rw[if_neg hc,if_neg hc]
theorem qDn {ii ij:Itm} {oi oj:Oper} (hv:isV oi.op=true) (hap:oi.apart ops oj=true) (hrd:∀ id∈ii.rd,id∈ij.av) (hs:qaG P n ops ii oi s (fun s1=>qaG P n ops ij oj s1 K)) :
  qaG P n ops ij oj s (fun s2=>qaG P n ops ii oi s2 K):=by
 obtain⟨h1,h2,h3⟩:=Oper.apart_spec hap;have hVY:∃ w,(match oi.dst with | some d=>d<n | none=>True)∧qaG P n ops ij oj ⟨qcC s.t oi.dst w,s.h,s.u⟩ K ∧
   ∀ s2:S,qdM ops oi s.t s2.t→(∀ id∈ii.rd,s2.h id=s.h id)→K ⟨qcC s2.t oi.dst w,s2.h,s2.u⟩→qaG P n ops ii oi s2 K:=by
  unfold qaG at hs;split at hs
  ·rename_i hf;unfold qd5 at hs;rw[if_pos hv]at hs;split at hs
   ·rename_i p w he;refine⟨w,hs.2.1,hs.2.2,fun s2 ha hh hk=>?_⟩;unfold qaG;rw[qeE ha,hf];unfold qd5;simp only[if_pos hv,qeF ha,qxc hh,he];exact⟨hs.1,hs.2.1,hk⟩
   ·cases hs
  ·rename_i hf;refine⟨.tup [],hs.1,hs.2,fun s2 ha hh hk=>?_⟩;unfold qaG;rw[qeE ha,hf];exact⟨hs.1,hk⟩
  ·cases hs
 obtain⟨w,hn,hj,hback⟩:=hVY;have:=qnp (qno (t:=s.t) (h:=s.h) (u:=s.u) (fun d hd=>h1 d hd) (fun d hd=>h2 d hd) hj);refine qc0 (fun s2 hk=>?_) this;obtain⟨hk,hkt,hkh⟩:=hk;refine hback s2 (fun i hi=>hkt i fun hd=>h3 i hd hi) (fun id hid=>avOk_spec.1 hkh id (hrd id hid)) hk
theorem qqo (hm:∀ id o,h id=some o→h' id=some o) {ids:List Nat} {sz:Nat} {els:List (List AV)} {x:AV} (hv:qb5 h ids sz els x):qb5 h' ids sz els x:=by
 cases x <;> simp only[qb5]at hv ⊢ <;> try exact hv
 ·rename_i id e len;cases hid:h id with
  | none=>simp[hid]at hv
  | some o=>rw[hm _ _ hid];rw[hid]at hv;exact hv
 ·rename_i id e off esz m;cases hid:h id with
  | none=>simp[hid]at hv
  | some o=>rw[hm _ _ hid];rw[hid]at hv;exact hv
 ·rename_i id e len cap;cases hid:h id with
  | none=>simp[hid]at hv
  | some o=>rw[hm _ _ hid];rw[hid]at hv;exact hv
mutual
theorem qtT (hm:∀ id o,h id=some o→h' id=some o) {ids:List Nat} {ρ:Nat→Option Plc}:∀ {a x:AV},mtA h ids ρ a x→mtA h' ids ρ a x
 | .lst sz els,x,hv=>by simp only[mtA]at hv ⊢;exact qqo hm hv
 | .agg cs,x,hv=>by
  cases x <;> simp only[mtA]at hv ⊢;exact qes hm hv
 | .tup cs,x,hv=>by
  cases x <;> simp only[mtA]at hv ⊢;exact qes hm hv
 | .fn f cs,x,hv=>by
  cases x <;> simp only[mtA]at hv ⊢;exact⟨hv.1,qes hm hv.2⟩
 | .top,x,hv=>by simp only[mtA]at hv ⊢
 | .ptr _ _ _,x,hv=>by simp only[mtA]at hv ⊢;exact hv
 | .sl _ _ _,x,hv=>by simp only[mtA]at hv ⊢;exact hv
 | .slc _ _ _ _,x,hv=>by simp only[mtA]at hv ⊢;exact hv
 | .bsl _ _ _ _ _,x,hv=>by simp only[mtA]at hv ⊢;exact hv
 | .int _ _,x,hv=>by simp only[mtA]at hv ⊢;exact hv
 | .bool _,x,hv=>by simp only[mtA]at hv ⊢;exact hv
 | .str _,x,hv=>by simp only[mtA]at hv ⊢;exact hv
 | .nilp,x,hv=>by simp only[mtA]at hv ⊢;exact hv
 | .nils,x,hv=>by simp only[mtA]at hv ⊢;exact hv
 | .nili,x,hv=>by simp only[mtA]at hv ⊢;exact hv
 | .ifc,x,hv=>by simp only[mtA]at hv ⊢;exact hv
 | .anyb,x,hv=>by simp only[mtA]at hv ⊢;exact hv
 | .elm _,x,hv=>by simp only[mtA]at hv ⊢;exact hv
theorem qes (hm:∀ id o,h id=some o→h' id=some o) {ids:List Nat} {ρ:Nat→Option Plc}:∀ {as xs:List AV},mtL h ids ρ as xs→mtL h' ids ρ as xs
 | [],xs,hv=>by simp only[mtL]at hv ⊢;exact hv
 | a::r,[],hv=>by simp only[mtL]at hv
 | a::r,x::xs,hv=>by simp only[mtL]at hv ⊢;exact⟨qtT hm hv.1,qes hm hv.2⟩
end
theorem qjS (hm:∀ id o,h id=some o→h' id=some o) {hv hv':Hp} (hmv:∀ id o,hv id=some o→hv' id=some o) {ids:List Nat} {ρ:Nat→Option Plc} {o:Ob} {p:Plc} (hi:qpK hv h ids ρ o p):qpK hv' h' ids ρ o p:=by
 cases p with
 | whole id =>
  obtain⟨O,h1,h2,h3⟩:=hi;refine⟨O,hm _ _ h1,h2,?_⟩;rcases h3 with h3 | ⟨cs,ds,e1,e2,h3⟩
  ·exact .inl h3
  ·exact .inr ⟨cs,ds,e1,e2,qes hmv h3⟩
 | sub id e0 o0 m =>
  obtain⟨O,cs,h1,h2,h3,h4,h5,h6,h7⟩:=hi;exact⟨O,cs,hm _ _ h1,h2,h3,h4,h5,h6,qes hmv h7⟩
theorem qkw {d:Nat} {ob:Ob}:∀ {pl:List (Nat×Plc)},(∀ x∈pl,x.2.id≠d)→qmW (upd h d (some ob)) pl=upd (qmW h pl) d (some ob)
 | [],_=>rfl
 | (c,.whole id)::r,hd=>by
  simp only[qmW];rw[qkw fun x hx=>hd x (qHl _ hx)];have:id≠d:=hd (c,.whole id) (by simp);exact qcw _ _ _ (qFL this)
 | (c,.sub _ _ _ _)::r,hd=>by
  simp only[qmW];exact qkw fun x hx=>hd x (qHl _ hx)
theorem qon {h0:Hp} {d:Nat} {ob:Ob} {ρ:Nat→Option Plc} (hρ:∀ c p,ρ c=some p→p.id≠d):∀ {L:List (Nat×Ob)} {h:Hp},qoo (upd h0 d (some ob)) ρ (upd h d (some ob)) L=upd (qoo h0 ρ h L) d (some ob)
 | [],_=>rfl
 | (c,o)::r,h=>by
  simp only[qoo,qrs];rw[qon hρ];cases hc:ρ c with
  | none=>rfl
  | some p =>
   have hp:=hρ c p hc;cases p with
   | whole id=>exact qcw _ _ _ (qFL hp)
   | sub id e0 o0 m =>
    simp only;have:(upd h0 d (some ob)) id=h0 id:=qay _ _ hp;rw[this];cases h0 id with
    | none=>rfl
    | some O=>exact qcw _ _ _ (qFL hp)
theorem qxl {pl:List (Nat×Plc)} {φ:List (Nat×Nat)} {c:Nat} {p:Plc} (hp:qgD pl φ c=some p):p.id∈pl.map (·.2.id)∨p.id∈φ.map (·.2):=by
 unfold qgD at hp;split at hp
 ·rename_i q hq;injection hp with hp;subst hp;exact .inl (qGt.2 ⟨_,qbG hq,rfl⟩)
 ·split at hp
  ·rename_i id hq;injection hp with hp;subst hp;exact .inr (qGt.2 ⟨_,qfl hq,rfl⟩)
  ·cases hp
theorem qtW {op:Op} (h:isA op=true):isV op=false∧(∀ c,op≠.call c):=by
 cases op <;> simp[isA]at h <;> simp[isV]
theorem S.eqs {a b:S} (h1:a.t=b.t) (h2:a.h=b.h) (h3:a.u=b.u):a=b:=by
 cases a;cases b;simp only at h1 h2 h3;subst h1;subst h2;subst h3;rfl
theorem qDp {ii ij:Itm} {oi oj:Oper} (hF:isF oi.op=true) (hA:isA oj.op=true) (hg:oj.guard=none) (hap:oi.apart ops oj=true) (hok:aOk P oj s) (hdn:∀ d,oj.dst=some d→d<n) (hav:∀ d,oj.dst=some d→d ∉ ij.av)
  (hs:qaG P n ops ii oi s (fun s1=>qaG P n ops ij oj s1 K)):qaG P n ops ij oj s (fun s2=>qaG P n ops ii oi s2 K):=by
 obtain⟨h1,h2,h3⟩:=Oper.apart_spec hap;obtain⟨hok1,hok2⟩:=hok;cases he:opS P oj s with
 | none=>rw[he]at hok1;exact hok1.elim
 | some r =>
 obtain⟨q,s'⟩:=r;rw[he]at hok1;simp only at hok1;obtain⟨d,sz,els,v,q0,hd,rfl,hq,hall⟩:=qpG hA he;rw[hd]at hok2;simp only at hok2;have hfj:∀ t,qfV ops oj t=some true:=fun t=>by unfold qfV;rw[hg]
 have hnv:=qtW hA;have mk:∀ (s2:S) (K2:S→Prop),qaG P n ops ij oj s2 K2↔qhZ n oj.dst (opS P oj s2) (fun s'=>qhG ij.av s2.h s'.h∧K2 s'):=fun s2 K2=>by
  unfold qaG;rw[hfj];unfold qd5;rw[if_neg (by rw[hnv.1];simp)];simp only;split
  ·rename_i x args tys ho;exact absurd ho (hnv.2 _)
  ·rw[qvy hA];exact⟨fun h=>h.2,fun h=>⟨fun h=>(by cases h),h⟩⟩
 have mk2:∀ (s2:S) (K2:S→Prop),qdM ops oj s.t s2.t→qaG P n ops ij oj s2 K2→d ∉ s2.u∧K2 (qbm d s2 sz els v):=fun s2 K2 ha hk=>by
  obtain⟨p2,e2,hp2⟩:=hall s2 ha;rw[mk,e2]at hk;unfold qhZ at hk;exact⟨(hp2.1 hk.1).1,hk.2.2.2⟩
 have havs:∀ (hh:Hp) (ob:Ob),qhG ij.av hh (upd hh d (some ob)):=fun hh ob=>avOk_spec.2 fun id hid=>qay _ _ (by rintro rfl;exact hav _ hd hid);rw[mk,he];unfold qhZ;refine⟨hok1,by rw[hd];exact hdn d hd,havs _ _,?_⟩;have hagi:qdM ops oi s.t (upd s.t d v):=fun i hi=>qay _ _ (by rintro rfl;exact h3 _ hd hi);have hdi:oi.dst≠some d:=fun e=>h2 d e hd;unfold qaG at hs ⊢;have hfi:qfV ops oi (qbm d s sz els v).t=qfV ops oi s.t:=qeE hagi;rw[hfi];split at hs
 ·rename_i hf;show _;unfold qd5 at hs ⊢;have hvi:¬ isV oi.op=true:=by
   cases hoi:oi.op <;> rw[hoi]at hF <;> simp[isF]at hF ⊢ <;> try (simp[isV];done)
   rename_i c;obtain⟨callee,args,tys⟩:=c;cases callee <;> simp[isF]at hF;simp[isV]
  rw[if_neg hvi]at hs ⊢;split at hs
  ·rename_i x args tys ho;show _;have hop:∀ y,y∈oi.op.operands.toList→opd (upd s.t d v) y=opd s.t y:=fun y hy=>qdJ hagi hy;rw[ho]at hop;have e1:opd (qbm d s sz els v).t x=opd s.t x:=hop x (by simp[Op.operands,Call.operands]);have e2:args.toList.map (opd (qbm d s sz els v).t)=args.toList.map (opd s.t):=qGD fun y hy=>hop y (by simp[Op.operands,Call.operands];exact .inr (by simpa using hy));rw[e1,e2];unfold qjr at hs ⊢;split at hs
   ·rename_i f cap hx;show _;obtain⟨g1,g2,hv,pl,argsC,L,R,hin,hC,hR⟩:=hs;have hmore:∀ id o,s.h id=some o→(upd s.h d (some ⟨sz,els⟩)) id=some o:=fun id o ho=>by
     rw[qay _ _ (by rintro rfl;rw[hok2]at ho;cases ho)];exact ho
    have hpd:∀ x∈pl,x.2.id≠d:=fun x hx e=>by
     have:=hin.liv x hx;rw[e,hok2]at this;simp at this
    have hin':∃ hv',CallIn (qbm d s sz els v) hv' pl (args.toList.map (opd s.t)++cap) argsC L∧(hv=(fun _=>none)→hv'=fun _=>none):=by
     have hliv:∀ x,x∈pl→((qbm d s sz els v).h x.2.id).isSome=true:=fun x hx=>by
      show((upd s.h d (some ⟨sz,els⟩)) x.2.id).isSome=true;rw[qay _ _ (hpd x hx)];exact hin.liv x hx
     by_cases hnone:hv=fun _=>none
     ·exact⟨hv,⟨.inr hnone,hin.mt,hin.nod,fun x hx=>(hin.obs x hx).imp fun p hp=>⟨hp.1,qjS hmore (fun _ _ h=>h) hp.2⟩,hin.keys,hliv⟩,fun h=>h⟩
     ·have hvs:hv=s.h:=hin.view.resolve_right hnone;subst hvs;exact⟨upd s.h d (some ⟨sz,els⟩),⟨.inl rfl,qes hmore hin.mt,hin.nod,fun x hx=>(hin.obs x hx).imp fun p hp=>⟨hp.1,qjS hmore hmore hp.2⟩,hin.keys,hliv⟩,fun h=>absurd h hnone⟩
    obtain⟨hv',hin',hvn⟩:=hin';refine⟨g1,g2,hv',pl,argsC,L,R,hin',hC,fun r L' hr=>?_⟩;obtain⟨φ,hco,hav1,hj⟩:=hR r L' hr;have hagj:qdM ops oj s.t (qaf s pl φ oi.dst r L').t:=fun i hi=>qgQ (fun e=>h1 i e hi);obtain⟨hdu,hK⟩:=mk2 _ _ hagj hj;have hdφ:d ∉ φ.map (·.2):=fun hm=>hdu (.inl hm);have hρd:∀ c p,qgD pl φ c=some p→p.id≠d:=fun c p hp e=>by
     rcases qxl hp with hm | hm
     ·obtain⟨x,hx,hxe⟩:=qGt.1 hm;exact hpd x hx (hxe.trans e)
     ·rw[e]at hm;exact hdφ hm
    have hh:(qaf (qbm d s sz els v) pl φ oi.dst r L').h=upd (qaf s pl φ oi.dst r L').h d (some ⟨sz,els⟩):=by
     simp only[qaf,qbm];rw[qkw hpd,qon hρd]
    have hst:qaf (qbm d s sz els v) pl φ oi.dst r L'=qbm d (qaf s pl φ oi.dst r L') sz els v:=by
     have ht:(qaf (qbm d s sz els v) pl φ oi.dst r L').t=upd (qaf s pl φ oi.dst r L').t d v:=by
      simp only[qaf,qbm,qeU hdi]
     have hu:(qaf (qbm d s sz els v) pl φ oi.dst r L').u=Us.cons d (qaf s pl φ oi.dst r L').u:=by
      simp only[qaf,qbm,Us.cons_app]
     exact S.eqs ht hh hu
    refine⟨φ,⟨?_,hco.nod,hco.new,fun x hx=>?_,hco.kin,hco.sub⟩,?_,?_⟩
    ·exact hco.lone.imp hvn id
    ·rintro(e | e)
     ·exact hdφ (e ▸ qGt.2 ⟨x,hx,rfl⟩)
     ·exact hco.unu x hx e
    ·rw[hh];refine avOk_spec.2 fun id hid=>?_;by_cases e:id=d
     ·subst e;rw[qat];exact(qat _ _ _).symm
     ·rw[qay _ _ e];show _=upd s.h d (some ⟨sz,els⟩) id;rw[qay _ _ e];exact avOk_spec.1 hav1 id hid
    ·rw[hst];exact hK
   ·cases hs
  ·rename_i hne;exfalso;cases hoi:oi.op <;> rw[hoi]at hF <;> simp[isF]at hF;rename_i c;obtain⟨callee,args,tys⟩:=c;cases callee <;> simp[isF]at hF;exact hne _ _ _ hoi
 ·rename_i hf;show _;refine⟨hs.1,?_⟩;have hagj:qdM ops oj s.t (qcC s.t oi.dst (.tup [])):=fun i hi=>qgQ (fun e=>h1 i e hi);obtain⟨_,hK⟩:=mk2 _ _ hagj hs.2;have:(⟨qcC (qbm d s sz els v).t oi.dst (.tup []),(qbm d s sz els v).h,(qbm d s sz els v).u⟩:S)=qbm d ⟨qcC s.t oi.dst (.tup []),s.h,s.u⟩ sz els v:=by
   simp only[qbm,qeU hdi]
  rw[this];exact hK
 ·cases hs
end
end Go.Av
namespace Go.Av
abbrev zI(n:Nat):Itm:=⟨n,[],[],[],[]⟩
abbrev zJ(n:Nat)(a b:List Nat):Itm:=⟨n,a,b,[],[]⟩
end Go.Av
end
section
namespace Go.Av
open Go.RowKit
section
variable {P:Program} {n:Nat} {ops:Array Oper} {s:S} {K K':S→Prop}
theorem mkN {it:Itm} {o:Oper} (hA:isA o.op=true) (hg:o.guard=none):qaG P n ops it o s K↔qhZ n o.dst (opS P o s) (fun s'=>qhG it.av s.h s'.h∧K s'):=by
 have hf:qfV ops o s.t=some true:=by unfold qfV;rw[hg]
 have hnv:=qtW hA;unfold qaG;rw[hf];unfold qd5;rw[if_neg (by rw[hnv.1];simp)];simp only;split
 ·rename_i x args tys ho;exact absurd ho (hnv.2 _)
 ·rw[qvy hA];exact⟨fun h=>h.2,fun h=>⟨fun h=>(by cases h),h⟩⟩
theorem qDq {ii ij:Itm} {oi oj:Oper} (hA1:isA oi.op=true) (hg1:oi.guard=none) (hA:isA oj.op=true) (hg:oj.guard=none) (hap:oi.apart ops oj=true) (hav1:∀ d,oi.dst=some d→d ∉ ii.av) (hav:∀ d,oj.dst=some d→d ∉ ij.av)
  (hs:qaG P n ops ii oi s (fun s1=>qaG P n ops ij oj s1 K)):qaG P n ops ij oj s (fun s2=>qaG P n ops ii oi s2 K):=by
 obtain⟨h1,h2,h3⟩:=Oper.apart_spec hap;rw[mkN hA1 hg1]at hs;unfold qhZ at hs;split at hs
 ·rename_i p1 s1 he1;obtain⟨hp1,hd1,_,hj⟩:=hs;obtain⟨d1,sz1,els1,v1,q1,hdd1,rfl,hq1,hall1⟩:=qpG (ops:=ops) hA1 he1;rw[mkN hA hg]at hj;unfold qhZ at hj;split at hj
  ·rename_i p2 s2 he2;obtain⟨hp2,hd2,_,hK⟩:=hj;obtain⟨d2,sz2,els2,v2,q2,hdd2,rfl,hq2,hall2⟩:=qpG (ops:=ops) hA he2;have hne:d1≠d2:=fun e=>h2 d1 hdd1 (by rw[hdd2,e]);have ha2:qdM ops oj (qbm d1 s sz1 els1 v1).t s.t:=fun i hi=>(qay _ _ (by rintro rfl;exact h1 _ hdd1 hi)).symm;obtain⟨p2',e2',hq2'⟩:=hall2 s ha2;have hq2v:=hq2.1 hp2;have hd2u:d2 ∉ s.u:=fun h=>hq2v.1 (.inr h);rw[mkN hA hg,e2'];unfold qhZ;refine⟨hq2'.2 ⟨hd2u,hq2v.2⟩,hd2,avOk_spec.2 fun id hid=>qay _ _ (by rintro rfl;exact hav _ hdd2 hid),?_⟩;have ha1:qdM ops oi s.t (qbm d2 s sz2 els2 v2).t:=fun i hi=>qay _ _ (by rintro rfl;exact h3 _ hdd2 hi);obtain⟨p1',e1',hq1'⟩:=hall1 _ ha1;rw[mkN hA1 hg1,e1'];unfold qhZ;have hd1u:d1 ∉ (qbm d2 s sz2 els2 v2).u:=fun h=>h.elim (fun e=>hne e) (hq1.1 hp1).1;refine⟨hq1'.2 ⟨hd1u,(hq1.1 hp1).2⟩,hd1,avOk_spec.2 fun id hid=>qay _ _ (by rintro rfl;exact hav1 _ hdd1 hid),?_⟩;have:qbm d1 (qbm d2 s sz2 els2 v2) sz1 els1 v1=qbm d2 (qbm d1 s sz1 els1 v1) sz2 els2 v2:=by
    simp only[qbm,qcw _ _ _ hne,Us.cons_cons (d:=d1)]
   rw[this];exact hK
  ·cases hj
 ·cases hs
def isN (rd:List Nat) (op:Op):Bool:=isA op || qs4 rd op
def rmC (c:List Nat) (h:Hp):Hp:=fun i=>if c.contains i then none else h i
def nw (d:Nat) (ob:Ob) (v:AV) (c:List Nat) (s:S):S:=⟨upd s.t d v,upd (rmC c s.h) d (some ob),Us.cons d s.u⟩
theorem qrl (h:Hp):rmC [] h=h:=by funext i;simp[rmC]
theorem qrk (id:Nat) (h:Hp):rmC [id] h=upd h id none:=by
 funext i
 unfold rmC upd;by_cases e:i=id <;> simp[e]
theorem qAH {o:Oper} {rd:List Nat} (hN:isN rd o.op=true) (hg:qs4 rd o.op=true→gOk rd o.op s.t) {p:Prop} {s':S} (he:opS P o s=some (p,s')):∃ (d:Nat) (ob:Ob) (v:AV) (q0:Prop) (c:List Nat),o.dst=some d ∧
  (∀ id∈c,id∈rd.drop 1∧(s.h id).isSome=true)∧s'=nw d ob v c s∧(p↔d ∉ s.u∧q0) ∧
  ∀ s2:S,qdM ops o s.t s2.t→(∀ id∈c,s2.h id=s.h id)→∃ p2,opS P o s2=some (p2,nw d ob v c s2)∧(p2↔d ∉ s2.u∧q0):=by
 unfold isN at hN;simp only[qHy]at hN;rcases hN with hA | hG
 ·obtain⟨d,sz,els,v,q0,hd,rfl,hq,hall⟩:=qpG (ops:=ops) hA he;refine⟨d,⟨sz,els⟩,v,q0,[],hd,by simp,by simp only[nw,qrl];rfl,hq,fun s2 ha _=>?_⟩;obtain⟨p2,e2,h2⟩:=hall s2 ha;exact⟨p2,by simp only[nw,qrl];exact e2,h2⟩
 ·have hgk:=hg hG;obtain⟨dst,op,ty,pos,after,guard⟩:=o;have hop:∀ {s2:S},qdM ops ⟨dst,op,ty,pos,after,guard⟩ s.t s2.t→∀ x,x∈op.operands.toList→opd s2.t x=opd s.t x:=fun ha x hx=>qdJ ha hx;simp only at hgk hG he ⊢;unfold gOk at hgk;split at hgk
  ·rename_i args tys;split at hgk
   ·rename_i x y hxy;obtain⟨g1,g2⟩:=hgk;have hop2:∀ {s2:S},qdM ops ⟨dst,.call ⟨.builtin .append,args,tys⟩,ty,pos,after,guard⟩ s.t s2.t→opd s2.t x=opd s.t x∧opd s2.t y=opd s.t y:=fun ha=>⟨hop ha x (by simp[Op.operands,Call.operands,hxy]),hop ha y (by simp[Op.operands,Call.operands,hxy])⟩;cases dst with
    | none=>simp only[opS]at he;cases he
    | some d =>
     simp only[opS,hxy]at he ⊢;split at he
     ·rename_i a b t1 t2 hab htt;injection hab with hab1 hab2;injection hab2 with hab2 _;subst hab1;subst hab2;cases hx:opd s.t x with
      | sl id e0 len =>
       rw[hx]at g1 he;simp only at g1;cases hy:opd s.t y with
       | lst sz els =>
        rw[hy]at he;have hev:∀ (s2:S),qfx P s2 d t1 t2 (.sl id e0 len) (.lst sz els)=qb8 P s2 d t1 t2 (.sl id e0 len) (.lst sz els):=fun _=>rfl;rw[hev]at he;unfold qb8 at he;split at he
        ·rename_i e _ _ _ _ _ _ _ hT1 hT2;split at he
         ·rename_i ie q sz2 ys hE hS;simp only at he;split at he
          ·rename_i o ho;simp only[qFQ,qFR]at he;obtain⟨rfl,rfl⟩:=he;refine⟨d,⟨ie.size,(o.els.drop e0).take len++ys⟩,.sl d 0 (len+ys.length),_,[id],rfl,fun i hi=>?_,by simp only[nw,qrk],qGH,fun s2 ha hh=>⟨_,?_,qGH⟩⟩
           ·simp only[qHq,qHz,or_false]at hi;subst hi;exact⟨by simpa using g1,by rw[ho];rfl⟩
           ·obtain⟨ex,ey⟩:=hop2 ha;have hS2:qa4 s2.h (.lst sz els)=qa4 s.h (.lst sz els):=rfl;simp only[htt,ex,ey,hx,hy,hev];simp only[qb8,hT1,hT2,hE,hS2,hS,hh id (by simp),ho,nw,qrk]
          ·cases he
         ·cases he
        ·cases he
       | _=>rw[hy]at g2;exact g2.elim
      | _=>rw[hx]at g1;exact g1.elim
     ·cases he
   ·exact hgk.elim
  ·rename_i hne;exfalso;have:isG op=false:=by
    unfold isG;split
    ·exact(hne _ _ rfl).elim
    ·rfl
   unfold qs4 at hG;rw[this]at hG;cases hG
theorem qvp {rd:List Nat} {op:Op} (h:isN rd op=true):isV op=false∧∀ x args tys,op≠.call ⟨.value x,args,tys⟩:=by
 unfold isN at h;simp only[qHy]at h;rcases h with h | h
 ·exact⟨(qtW h).1,fun _ _ _=>(qtW h).2 _⟩
 ·unfold qs4 isG at h;simp only[Bool.and_eq_true]at h;have:=h.1;split at this
  ·exact⟨rfl,fun _ _ _ h=>by cases h⟩
  ·cases this
theorem qCG {it:Itm} {o:Oper} (hN:isN it.rd o.op=true) (hg:o.guard=none):qaG P n ops it o s K↔(qs4 it.rd o.op=true→gOk it.rd o.op s.t)∧qhZ n o.dst (opS P o s) (fun s'=>qhG it.av s.h s'.h∧K s'):=by
 have hf:qfV ops o s.t=some true:=by unfold qfV;rw[hg]
 have hnv:=qvp hN;unfold qaG;rw[hf];unfold qd5;rw[if_neg (by rw[hnv.1];simp)];simp only;split
 ·rename_i x args tys ho;exact absurd ho (hnv.2 _ _ _)
 ·exact qGH
def NN (n:Nat) (it:Itm) (o:Oper):Prop:=isN it.rd o.op=true∧o.guard=none∧(∀ d,o.dst=some d→d<n∧d ∉ it.av)∧∀ id∈it.rd.drop 1,id ∉ it.av
theorem qzJ {ii ij:Itm} {oi oj:Oper} (hi:NN n ii oi) (hj:NN n ij oj) (hap:oi.apart ops oj=true) (hdi:∀ d,oi.dst=some d→d ∉ ij.rd.drop 1) (hdj:∀ d,oj.dst=some d→d ∉ ii.rd.drop 1) (hrr:∀ id∈ii.rd.drop 1,id ∉ ij.rd.drop 1)
  (hs:qaG P n ops ii oi s (fun s1=>qaG P n ops ij oj s1 K)):qaG P n ops ij oj s (fun s2=>qaG P n ops ii oi s2 K):=by
 obtain⟨h1,h2,h3⟩:=Oper.apart_spec hap;obtain⟨hN1,hg1,ha1,hr1⟩:=hi;obtain⟨hN2,hg2,ha2,hr2⟩:=hj;rw[qCG hN1 hg1]at hs;obtain⟨hk1,hs⟩:=hs;unfold qhZ at hs;split at hs
 ·rename_i p1 s1 he1;obtain⟨hp1,hd1,_,hjj⟩:=hs;obtain⟨d1,ob1,v1,q1,c1,hdd1,hc1,rfl,hq1,hall1⟩:=qAH (ops:=ops) hN1 hk1 he1;rw[qCG hN2 hg2]at hjj;obtain⟨hk2,hjj⟩:=hjj;unfold qhZ at hjj;split at hjj
  ·rename_i p2 s2 he2;obtain⟨hp2,hd2,_,hK⟩:=hjj;obtain⟨d2,ob2,v2,q2,c2,hdd2,hc2,rfl,hq2,hall2⟩:=qAH (ops:=ops) hN2 hk2 he2;have hne:d1≠d2:=fun e=>h2 d1 hdd1 (by rw[hdd2,e]);have n1:∀ id∈c2,id≠d1:=fun id hid=>by rintro rfl;exact hdi _ hdd1 (hc2 id hid).1
   have n2:∀ id∈c1,id≠d2:=fun id hid=>by rintro rfl;exact hdj _ hdd2 (hc1 id hid).1
   have n3:∀ id∈c1,id ∉ c2:=fun id hid h=>hrr id (hc1 id hid).1 (hc2 id h).1;have hh2:∀ id∈c2,s.h id=(nw d1 ob1 v1 c1 s).h id:=fun id hid=>by
    show _=upd (rmC c1 s.h) d1 (some ob1) id;rw[qay _ _ (n1 id hid)];unfold rmC;rw[if_neg (by simpa using fun h=>n3 id h hid)]
   have agr2:qdM ops oj (nw d1 ob1 v1 c1 s).t s.t:=fun i hi=>(qay _ _ (by rintro rfl;exact h1 _ hdd1 hi)).symm;obtain⟨p2',e2',hq2'⟩:=hall2 s agr2 hh2;have hq2v:=hq2.1 hp2;have hd2u:d2 ∉ s.u:=fun h=>hq2v.1 (.inr h);rw[qCG hN2 hg2,e2'];refine⟨fun hm=>(qi0 (ops:=ops) agr2).2 (hk2 hm),?_⟩;unfold qhZ;have av2:qhG ij.av s.h (nw d2 ob2 v2 c2 s).h:=avOk_spec.2 fun id hid=>by
    show upd (rmC c2 s.h) d2 (some ob2) id=_;rw[qay _ _ (by rintro rfl;exact(ha2 _ hdd2).2 hid)];unfold rmC;rw[if_neg (by simpa using fun h=>hr2 id (hc2 id h).1 hid)]
   refine⟨hq2'.2 ⟨hd2u,hq2v.2⟩,hd2,av2,?_⟩;have agr1:qdM ops oi s.t (nw d2 ob2 v2 c2 s).t:=fun i hi=>qay _ _ (by rintro rfl;exact h3 _ hdd2 hi);have hh1:∀ id∈c1,(nw d2 ob2 v2 c2 s).h id=s.h id:=fun id hid=>by
    show upd (rmC c2 s.h) d2 (some ob2) id=_;rw[qay _ _ (n2 id hid)];unfold rmC;rw[if_neg (by simpa using n3 id hid)]
   obtain⟨p1',e1',hq1'⟩:=hall1 _ agr1 hh1;rw[qCG hN1 hg1,e1'];refine⟨fun hm=>(qi0 (ops:=ops) agr1).2 (hk1 hm),?_⟩;unfold qhZ;have hd1u:d1 ∉ (nw d2 ob2 v2 c2 s).u:=fun h=>h.elim (fun e=>hne e) (hq1.1 hp1).1;refine⟨hq1'.2 ⟨hd1u,(hq1.1 hp1).2⟩,hd1,avOk_spec.2 fun id hid=>?_,?_⟩
   ·show upd (rmC c1 _) d1 (some ob1) id=_;rw[qay _ _ (by rintro rfl;exact(ha1 _ hdd1).2 hid)];unfold rmC;rw[if_neg (by simpa using fun h=>hr1 id (hc1 id h).1 hid)]
   ·have:nw d1 ob1 v1 c1 (nw d2 ob2 v2 c2 s)=nw d2 ob2 v2 c2 (nw d1 ob1 v1 c1 s):=by
     refine S.eqs ?_ ?_ ?_
     ·simp only[nw,qcw _ _ _ hne]
     ·funext i
      simp only[nw,upd,rmC];by_cases e1:i=d1
      ·subst e1;have:i≠d2:=hne;have:¬ c2.contains i=true:=by simpa using fun h=>n1 i h rfl
       simp_all
      ·by_cases e2:i=d2
       ·subst e2;have:¬ c1.contains i=true:=by simpa using fun h=>n2 i h rfl
        simp_all
       ·simp only[e1,e2,if_false];by_cases e3:i∈c1 <;> by_cases e4:i∈c2 <;> simp[e3,e4]
     ·simp only[nw,Us.cons_cons (d:=d1)]
    rw[this];exact hK
  ·cases hjj
 ·cases hs
theorem quP {ij:Itm} {oj:Oper} (hA:isA oj.op=true) (hg:oj.guard=none) (hs:qaG P n ops ij oj s K):
  qaG P n ops ij oj s (fun s2=>K s2∧∀ o',isA o'.op=true→oj.apart ops o'=true→aOk P o' s→aOk P o' s2):=by
 rw[mkN hA hg]at hs ⊢;refine qge (fun p s2 he hk=>⟨hk.1,hk.2,fun o' hA' hap hok=>?_⟩) hs;obtain⟨h1,h2,h3⟩:=Oper.apart_spec hap;obtain⟨d,sz,els,v,q,hd,rfl,hq,_⟩:=qpG (ops:=ops) hA he;obtain⟨hok1,hok2⟩:=hok;cases he':opS P o' s with
 | none=>rw[he']at hok1;exact hok1.elim
 | some r =>
  obtain⟨p',s'⟩:=r;rw[he']at hok1;simp only at hok1;obtain⟨d',sz',els',v',q',hd',rfl,hq',hall'⟩:=qpG (ops:=ops) hA' he';obtain⟨p2,e2,hp2⟩:=hall' (qbm d s sz els v) (fun i hi=>qay _ _ (by rintro rfl;exact h1 _ hd hi));have hne:d'≠d:=fun e=>h2 d hd (by rw[hd',e]);refine⟨?_,?_⟩
  ·rw[e2];exact hp2.2 ⟨fun h=>h.elim hne (hq'.1 hok1).1,(hq'.1 hok1).2⟩
  ·rw[hd']at hok2 ⊢;simp only at hok2 ⊢;show upd s.h d _ d'=none;rw[qay _ _ hne];exact hok2
def opN (P:Program) (n:Nat) (ops:Array Oper) (ann:Nat→Itm) (i:Nat) (K:S→Prop) (s:S):Prop :=
 match ops[i]? with
 | none=>K s
 | some o=>qaG P n ops (ann i) o s K
def qhq (P:Program) (n:Nat) (ops:Array Oper) (ann:Nat→Itm) (Q:S→Prop):Nat→Array Bool→S→Prop
 | 0,listed,s=>Region.ready .any ops listed=[]∧Q s
 | fuel+1,listed,s=>(Region.ready .any ops listed=[]→Q s)∧∀ i∈Region.ready .any ops listed,opN P n ops ann i (qhq P n ops ann Q fuel (listed.setIfInBounds i true)) s
def Cm (n:Nat) (ops:Array Oper) (ii ij:Itm) (oi oj:Oper):Prop :=
 oi.apart ops oj=true∧((isV oi.op=true∧∀ id∈ii.rd,id∈ij.av)∨(isF oi.op=true∧isA oj.op=true∧oj.guard=none∧(∀ d,oj.dst=some d→d<n∧d ∉ ij.av)) ∨
  (isA oi.op=true∧oi.guard=none∧(∀ d,oi.dst=some d→d ∉ ii.av)∧isA oj.op=true∧oj.guard=none∧(∀ d,oj.dst=some d→d<n∧d ∉ ij.av)) ∨
  (NN n ii oi∧NN n ij oj∧(∀ d,oi.dst=some d→d ∉ ij.rd.drop 1)∧(∀ d,oj.dst=some d→d ∉ ii.rd.drop 1)∧∀ id∈ii.rd.drop 1,id ∉ ij.rd.drop 1))
theorem qA9 {rd:List Nat} {op:Op} (h:isN rd op=true):isF op=false:=by
 have:=qvp h;cases op <;> try rfl
 rename_i c;obtain⟨callee,args,tys⟩:=c;cases callee <;> try rfl
 exact absurd rfl (this.2 _ _ _)
theorem qDo {ii ij:Itm} {oi oj:Oper} (hc:Cm n ops ii ij oi oj) (hok:isF oi.op=true→aOk P oj s) (hs:qaG P n ops ii oi s (fun s1=>qaG P n ops ij oj s1 K)) :
  qaG P n ops ij oj s (fun s2=>qaG P n ops ii oi s2 K):=by
 obtain⟨hap,hV | hF | hA | hN⟩:=hc
 ·exact qDn hV.1 hap hV.2 hs
 ·exact qDp hF.1 hF.2.1 hF.2.2.1 hap (hok hF.1) (fun d hd=>(hF.2.2.2 d hd).1) (fun d hd=>(hF.2.2.2 d hd).2) hs
 ·exact qDq hA.1 hA.2.1 hA.2.2.2.1 hA.2.2.2.2.1 hap hA.2.2.1 (fun d hd=>(hA.2.2.2.2.2 d hd).2) hs
 ·exact qzJ hN.1 hN.2.1 hap hN.2.2.1 hN.2.2.2.1 hN.2.2.2.2 hs
theorem qlv {ann:Nat→Itm} {Q:S→Prop} {i:Nat} {oi:Oper} (hi:ops[i]?=some oi) (B:List Nat) (hBw:∀ b∈B,∀ ob,ops[b]?=some ob→∃ e∈ob.after,Region.binds .any e=true∧(e.on=i∨e.on∈B)) :
  ∀ (fuel:Nat) (listed:Array Bool) (U:List Nat) (s:S),U.length≤fuel→(∀ j,j∈Region.ready .any ops listed→j≠i→j∈U)→(∀ j,j<ops.size→listed.getD j true=false→j≠i→j∈U)→(∀ b∈B,listed.getD b true=false) →
   (∀ j oj,ops[j]?=some oj→j≠i→listed.getD j true=false→j ∉ B→Cm n ops (ann i) (ann j) oi oj∧(isF oi.op=true→aOk P oj s)) →
   (isF oi.op=true→∀ j j' oj oj',ops[j]?=some oj→ops[j']?=some oj'→j≠j'→j≠i→j'≠i→listed.getD j true=false→listed.getD j' true=false→j ∉ B→j' ∉ B→oj.apart ops oj'=true) →
   i∈Region.ready .any ops listed→opN P n ops ann i (qhq P n ops ann Q fuel (listed.setIfInBounds i true)) s→qhq P n ops ann Q (fuel+1) listed s:=by
 intro fuel
 induction fuel with
 | zero =>
  intro listed U s hU hr hu hB hc hAA hir H;refine⟨fun h=>(by rw[h]at hir;cases hir),fun j hj=>?_⟩;by_cases hji:j=i
  ·subst hji;exact H
  ·have:=hr j hj hji;have:U=[]:=List.length_eq_zero_iff.1 (Nat.le_zero.1 hU);subst this;simp at *
 | succ fuel ih =>
  intro listed U s hU hr hu hB hc hAA hir H;refine⟨fun h=>(by rw[h]at hir;cases hir),fun j hj=>?_⟩;by_cases hji:j=i
  ·subst hji;exact H
  ·obtain⟨hjun,oj,hoj,hall⟩:=mem_ready.1 hj;have hiun:=(mem_ready.1 hir).1;have unl:∀ x,listed.getD x true=false→listed.getD x false=false:=fun x hx=>by
    rcases qGO x listed.size with h' | h'
    ·simp[h']at hx ⊢;exact hx
    ·simp[qG0 h']at hx
   have hjB:j ∉ B:=fun hb=>by
    obtain⟨e,he,hbi,hon⟩:=hBw j hb oj hoj;have h1:=hall e he hbi;rcases hon with hon | hon
    ·rw[hon]at h1;rw[unl i hiun]at h1;cases h1
    ·rw[unl _ (hB _ hon)]at h1;cases h1
   obtain⟨hcm,hok⟩:=hc j oj hoj hji hjun hjB;have h1:qaG P n ops (ann i) oi s (fun s1=>qaG P n ops (ann j) oj s1 (qhq P n ops ann Q fuel ((listed.setIfInBounds i true).setIfInBounds j true))):=by
    unfold opN at H;simp only[hi]at H;refine qc0 (fun s1 h1=>?_) H;have:=h1.2 j (ready_mono hj hji);unfold opN at this;simpa only [hoj]using this
   have h2:=qDo hcm hok h1;have hU':(U.erase j).length≤fuel:=by
    have hm:=hr j hj hji;have:=List.length_erase_of_mem hm;omega
   have hset:∀ x,(listed.setIfInBounds j true).getD x true=false→x≠j∧listed.getD x true=false:=fun x hx=>by
    by_cases hjx:j=x
    ·subst hjx;exfalso;rcases qGO j listed.size with h' | h'
     ·simp[h']at hx
     ·have:(listed.setIfInBounds j true)[j]?=none:=by simp;omega
      simp[qF1,this]at hx
    ·rw[getD_set_ne true hjx]at hx;exact⟨fun e=>hjx e.symm,hx⟩
   have go:∀ s2,(∀ j' oj',ops[j']?=some oj'→j'≠i→(listed.setIfInBounds j true).getD j' true=false→j' ∉ B→isF oi.op=true→aOk P oj' s2) →
     qaG P n ops (ann i) oi s2 (qhq P n ops ann Q fuel ((listed.setIfInBounds i true).setIfInBounds j true))→qhq P n ops ann Q (fuel+1) (listed.setIfInBounds j true) s2:=fun s2 hoks h=>by
    refine ih (listed.setIfInBounds j true) (U.erase j) s2 hU' (fun x hx hxi=>?_) (fun x hxs hx hxi=>?_) (fun b hb=>?_) (fun x ox hx hxi hxu hxB=>?_) (fun hF x x' ox ox' h1 h2 h3 h4 h5 h6 h7 h8 h9=>hAA hF x x' ox ox' h1 h2 h3 h4 h5 (hset x h6).2 (hset x' h7).2 h8 h9) (ready_mono hir (qFL hji)) ?_
    ·obtain⟨hxu,ox,hox,_⟩:=mem_ready.1 hx;have:=hset x hxu;exact(qHA this.1).2 (hu x (qGJ.1 hox).1 this.2 hxi)
    ·have:=hset x hx;exact(qHA this.1).2 (hu x hxs this.2 hxi)
    ·rw[getD_set_ne true (fun(e:j=b)=>hjB (by rw[e];exact hb))];exact hB b hb
    ·exact⟨(hc x ox hx hxi (hset x hxu).2 hxB).1,fun hF=>hoks x ox hx hxi hxu hxB hF⟩
    ·unfold opN;simp only[hi];rw[Array.setIfInBounds_comm _ _ (qFL hji)]at h;exact h
   unfold opN;simp only[hoj];by_cases hF:isF oi.op=true
   ·have hA:isA oj.op=true∧oj.guard=none:=by
     obtain⟨_,hV | h | h | h⟩:=hcm
     ·exfalso;have hV1:=hV.1
      revert hF hV1
      cases oi.op <;> simp[isF,isV];rename_i c;obtain⟨callee,args,tys⟩:=c;cases callee <;> simp[isF,isV]
     ·exact⟨h.2.1,h.2.2.1⟩
     ·exact⟨h.2.2.2.1,h.2.2.2.2.1⟩
     ·rw[qA9 h.1.1]at hF;cases hF
    refine qc0 (fun s2 h3=>go s2 (fun j' oj' hj' hji' hju' hjB' _=>?_) h3.1) (quP hA.1 hA.2 h2);have hs':=hset j' hju';obtain⟨hcm',hok'⟩:=hc j' oj' hj' hji' hs'.2 hjB';have hA':isA oj'.op=true:=by
     obtain⟨_,hV | h | h | h⟩:=hcm'
     ·exfalso;have hV1:=hV.1
      revert hF hV1
      cases oi.op <;> simp[isF,isV];rename_i c;obtain⟨callee,args,tys⟩:=c;cases callee <;> simp[isF,isV]
     ·exact h.2.1
     ·exact h.2.2.2.1
     ·rw[qA9 h.1.1]at hF;cases hF
    exact h3.2 oj' hA' (hAA hF j j' oj oj' hoj hj' (qFL hs'.1) hji hji' hjun hs'.2 hjB hjB') (hok' hF)
   ·exact qc0 (fun s2 h3=>go s2 (fun j' oj' _ _ _ _ h=>absurd h hF) h3) h2
end
end Go.Av
end
section
namespace Go.Av
open Go.RowKit
def qB9 (plan:List Itm) (i:Nat):Itm:=(plan.find? (·.k == i)).getD ⟨i,[],[],[],[]⟩
def qtF (P:Program) (n:Nat) (ops:Array Oper) (K:S→Prop):List Itm→S→Prop
 | [],s=>K s
 | it::r,s=>qC0 P (qBv ops it.fr) s∧(match ops[it.k]? with
  | some o=>qaG P n ops it o s (qtF P n ops K r)
  | none=>False)
def aB (n:Nat) (it:Itm) (o:Oper):Bool:=isA o.op && o.guard.isNone && (match o.dst with | some d=>decide (d<n) && !it.av.contains d | none=>false)
def nB (n:Nat) (it:Itm) (o:Oper):Bool:=isN it.rd o.op && o.guard.isNone && (match o.dst with | some d=>decide (d<n) && !it.av.contains d | none=>false) && (it.rd.drop 1).all (fun id=>!it.av.contains id)
def apB (ii ij:Itm) (oi oj:Oper):Bool:=(match oi.dst with | some d=>!(ij.rd.drop 1).contains d | none=>true) && (match oj.dst with | some d=>!(ii.rd.drop 1).contains d | none=>true) && (ii.rd.drop 1).all (fun id=>!(ij.rd.drop 1).contains id)
def cmB (n:Nat) (ops:Array Oper) (ii ij:Itm) (oi oj:Oper):Bool :=
 oi.apart ops oj && ((isV oi.op && ii.rd.all (ij.av.contains ·)) || (isF oi.op && aB n ij oj) || (isA oi.op && aB n ii oi && aB n ij oj) || (nB n ii oi && nB n ij oj && apB ii ij oi oj))
def itB (n:Nat) (ops:Array Oper) (it:Itm) (r:List Itm) (listed:Array Bool):Bool :=
 match ops[it.k]? with
 | none=>false
 | some oi =>
  (it.B.all fun b=>!listed.getD b true && (match ops[b]? with | some ob=>ob.after.any fun e=>Region.binds .any e && (e.on == it.k || it.B.contains e.on) | none=>false)) &&
  ((List.range ops.size).all fun j=>j == it.k || listed.getD j true || r.any (·.k == j)) &&
  (r.all fun jt=>it.B.contains jt.k || (match ops[jt.k]? with | some oj=>cmB n ops it jt oi oj && (!isF oi.op || it.fr.contains jt.k) | none=>false)) &&
  (!isF oi.op || r.all fun jt=>r.all fun jt'=>jt.k == jt'.k || it.B.contains jt.k || it.B.contains jt'.k || (match ops[jt.k]?,ops[jt'.k]? with | some a,some b=>a.apart ops b | _,_=>false))
def qgb (n:Nat) (ops:Array Oper):List Itm→Array Bool→Bool
 | [],listed=>(Region.ready .any ops listed).isEmpty
 | it::r,listed=>(Region.ready .any ops listed).contains it.k && itB n ops it r listed && qgb n ops r (listed.setIfInBounds it.k true)
def cvB (o:Oper):Bool:=match o.op with
 | .convert _ _ _=>o.dst.isSome
 | _=>true
def qtG (n:Nat) (ops:Array Oper) (plan:List Itm):Bool :=
 ops.toList.all cvB && (plan.all fun it=>decide (qB9 plan it.k=it)) && decide (plan.length=ops.size) && qgb n ops plan (Array.replicate ops.size false)
section
variable {P:Program} {n:Nat} {ops:Array Oper} {s:S} {K K':S→Prop}
theorem qnT {it:Itm} {o:Oper} (h:aB n it o=true):isA o.op=true∧o.guard=none∧∀ d,o.dst=some d→d<n∧d ∉ it.av:=by
 unfold aB at h;simp only[Bool.and_eq_true,qHB]at h;refine⟨h.1.1,h.1.2,fun d hd=>?_⟩;have:=h.2;rw[hd]at this;simp only[Bool.and_eq_true,decide_eq_true_eq,qGx,qHC,decide_eq_false_iff_not]at this;exact this
theorem qrL {it:Itm} {o:Oper} (h:nB n it o=true):NN n it o:=by
 unfold nB at h;simp only[Bool.and_eq_true,qHB]at h;refine⟨h.1.1.1,h.1.1.2,fun d hd=>?_,fun id hid=>?_⟩
 ·have:=h.1.2;rw[hd]at this;simp only[Bool.and_eq_true,decide_eq_true_eq,qGx,qHC,decide_eq_false_iff_not]at this;exact this
 ·have:=qGf.1 h.2 id hid;simpa using this
theorem quO {ii ij:Itm} {oi oj:Oper} (h:apB ii ij oi oj=true):(∀ d,oi.dst=some d→d ∉ ij.rd.drop 1)∧(∀ d,oj.dst=some d→d ∉ ii.rd.drop 1)∧∀ id∈ii.rd.drop 1,id ∉ ij.rd.drop 1:=by
 unfold apB at h;simp only[Bool.and_eq_true]at h;refine⟨fun d hd=>?_,fun d hd=>?_,fun id hid=>?_⟩
 ·have:=h.1.1;rw[hd]at this;simpa using this
 ·have:=h.1.2;rw[hd]at this;simpa using this
 ·have:=qGf.1 h.2 id hid;simpa using this
theorem quB {ii ij:Itm} {oi oj:Oper} (h:cmB n ops ii ij oi oj=true):Cm n ops ii ij oi oj:=by
 unfold cmB at h;simp only[Bool.and_eq_true,qHy]at h;refine⟨h.1,?_⟩;rcases h.2 with((⟨h1,h2⟩ | ⟨h1,h2⟩) | ⟨⟨h1,h2⟩,h3⟩) | ⟨⟨h1,h2⟩,h3⟩
 ·exact .inl ⟨h1,fun id hid=>by
   have:=qGf.1 h2 id hid;simpa using this⟩
 ·exact .inr (.inl ⟨h1,qnT h2⟩)
 ·have:=qnT h2;exact .inr (.inr (.inl ⟨h1,this.2.1,fun d hd=>(this.2.2 d hd).2,qnT h3⟩))
 ·exact .inr (.inr (.inr ⟨qrL h1,qrL h2,quO h3⟩))
theorem qlZ {ann:Nat→Itm} {Q:S→Prop}:∀ (plan:List Itm) (listed:Array Bool) (s:S),(∀ it∈plan,ann it.k=it)→qgb n ops plan listed=true→qtF P n ops Q plan s→qhq P n ops ann Q plan.length listed s
 | [],listed,s,_,hB,h=>⟨by simpa [qgb]using hB,h⟩
 | it::r,listed,s,hann,hB,h=>by
  simp only[qgb,Bool.and_eq_true]at hB;obtain⟨⟨hr,hit⟩,hrest⟩:=hB;obtain⟨hfr,hg⟩:=h;cases hi:ops[it.k]? with
  | none=>simp[hi]at hg
  | some oi =>
   simp only[hi]at hg;unfold itB at hit;simp only[hi,Bool.and_eq_true]at hit;obtain⟨⟨⟨hb,hu⟩,hc⟩,hf⟩:=hit;have hrm:it.k∈Region.ready .any ops listed:=by simpa using hr
   have hin:∀ j,j<ops.size→listed.getD j true=false→j≠it.k→∃ jt∈r,jt.k=j:=fun j hj hl hne=>by
    have:=qGf.1 hu j (qGg.2 hj);simp only[qHy,beq_iff_eq,hne,false_or,hl,qFY]at this;obtain⟨jt,h1,h2⟩:=qHD.1 this;exact⟨jt,h1,by simpa using h2⟩
   refine qlv (oi:=oi) hi it.B (fun b hbm ob hob=>?_) r.length listed (r.map (·.k)) s (by simp) (fun j hj hne=>?_) (fun j hj hl hne=>?_) (fun b hbm=>?_) (fun j oj hoj hne hl hjB=>?_) (fun hF j j' oj oj' hoj hoj' hjj hne hne' hl hl' hjB hjB'=>?_) hrm ?_
   ·have:=qGf.1 hb b hbm;simp only[hob,Bool.and_eq_true]at this;obtain⟨e,he,h2⟩:=Array.any_eq_true'.1 this.2;simp only[Bool.and_eq_true,qHy,beq_iff_eq,qHC,decide_eq_true_eq]at h2;exact⟨e,he,h2.1,h2.2⟩
   ·obtain⟨hl,oj,hoj,_⟩:=mem_ready.1 hj;obtain⟨jt,h1,h2⟩:=hin j (qGJ.1 hoj).1 hl hne;exact qGt.2 ⟨jt,h1,h2⟩
   ·obtain⟨jt,h1,h2⟩:=hin j hj hl hne;exact qGt.2 ⟨jt,h1,h2⟩
   ·have:=qGf.1 hb b hbm;simp only[Bool.and_eq_true,qGx]at this;exact this.1
   ·obtain⟨jt,h1,rfl⟩:=hin j (qGJ.1 hoj).1 hl hne;have:=qGf.1 hc jt h1;simp only[qHy,qHC,decide_eq_true_eq,hjB,false_or,hoj,Bool.and_eq_true,qGx]at this;rw[hann it (by simp),hann jt (qHl _ h1)];refine⟨quB this.1,fun hF=>?_⟩;rcases this.2 with h2 | h2
    ·rw[h2]at hF;cases hF
    ·exact qmS hfr oj (List.mem_filterMap.2 ⟨jt.k,h2,hoj⟩)
   ·obtain⟨jt,h1,rfl⟩:=hin j (qGJ.1 hoj).1 hl hne;obtain⟨jt',h1',rfl⟩:=hin j' (qGJ.1 hoj').1 hl' hne';rw[hF]at hf;simp only[Bool.not_true,Bool.false_or]at hf;have:=qGf.1 (qGf.1 hf jt h1) jt' h1';simpa only [hoj,hoj',qHy,beq_iff_eq,hjj,qHC,decide_eq_true_eq,hjB,hjB',false_or]using this
   ·unfold opN;simp only[hi];rw[hann it (by simp)];exact qc0 (fun s1 h1=>qlZ r _ s1 (fun x hx=>hann x (qHl _ hx)) hrest h1) hg
theorem qis {it:Itm} {o:Oper} (hcv:cvB o=true) (h:qd5 P n ops it o s K):qhI P n o s K:=by
 unfold qd5 at h;unfold qhI;split at h
 ·rename_i hv;split at h
  ·rename_i p v he;have he2:qbh P s.t s.h o=some (p,v):=qpV (fun id x hx=>by
    unfold qre at hx;split at hx
    ·exact hx
    ·cases hx) he
   split
   ·rename_i x args tys ho;rw[ho]at hv;simp[isV]at hv
   ·rename_i hne;have hop:opS P o s=some (p,⟨qcC s.t o.dst v,s.h,s.u⟩):=by
     have hval:qfN P o s=some (p,⟨qcC s.t o.dst v,s.h,s.u⟩):=by unfold qfN;rw[he2]
     obtain⟨dst,op,ty,pos,after,guard⟩:=o;simp only at hv;cases op <;> simp only[isV,qFY]at hv <;> try exact hval
     ·cases dst with
      | none =>
       simp[cvB]at hcv
      | some d=>simp only[opS,he2];rfl
     ·rename_i c;obtain⟨callee,args,tys⟩:=c;cases callee with
      | builtin b=>cases b <;> simp only[isV,qFY]at hv <;> exact hval
      | _=>simp only[isV,qFY]at hv
    unfold qhZ;rw[hop];exact⟨h.1,h.2.1,h.2.2⟩
  ·cases h
 ·split at h
  ·rename_i x args tys ho;rw[ho];exact qhp (fun s' _ h=>h.2) h
  ·rename_i hne;split
   ·rename_i x args tys ho;exact absurd ho (hne x args tys)
   ·exact qge (fun p s' _ h=>h.2) h.2
theorem qkS {it:Itm} {o:Oper} (hcv:cvB o=true) (h:qaG P n ops it o s K):qe3 P n ops o s K:=by
 unfold qaG qfV at h;unfold qe3;cases hg:o.guard with
 | none =>
  simp only[hg]at h;exact qis hcv h
 | some gw =>
  obtain⟨g,want⟩:=gw;simp only[hg]at h ⊢;cases hd:(ops[g]?).bind (·.dst)with
  | none=>simp[hd]at h
  | some d =>
   simp only[hd]at h ⊢;cases ht:s.t d <;> simp only[ht]at h ⊢
   ·rename_i b;by_cases hb:b=want
    ·subst hb;simp only[beq_self_eq_true]at h;exact⟨fun _=>qis hcv h,fun e=>absurd rfl e⟩
    ·have:(b == want)=false:=by simpa using hb
     simp only[this]at h;exact⟨fun e=>absurd e hb,fun _=>h⟩
   ·exact h
theorem qim {ρ:Option Nat} {m:Nat} {c:Cx} (hn:c.n=n) {ann:Nat→Itm} {Q:S→Prop} {Q':Exit→Act→World→Prop} (hcv:∀ o∈ops.toList,cvB o=true) (hq:∀ s a w,(∃ Z γ,SRel c s Z γ a w)→Q s→Q' .normal a w) :
  ∀ (fuel:Nat) (listed:Array Bool) (s:S) (a:Act) (w:World),(∃ Z γ,SRel c s Z γ a w)→qhq P n ops ann Q fuel listed s→wpAnyIn (fen ρ) m P .any ops Q' fuel listed a w
 | 0,listed,s,a,w,hs,h=>⟨h.1,hq s a w hs h.2⟩
 | fuel+1,listed,s,a,w,hs,h=>⟨fun h0=>hq s a w hs (h.1 h0),fun i hi=>by
   have h1:=h.2 i hi;unfold opN at h1;unfold wpOpIn;cases hi':ops[i]? with
   | none =>
    simp only[hi']at h1;exact qim hn hcv hq fuel _ s a w hs h1
   | some o =>
    simp only[hi']at h1;obtain⟨Z,γ,hs'⟩:=hs;have:=qmj (ρ:=ρ) (m:=m) (Q:=Q') hn hs' (qkS (hcv o (Array.mem_toList_iff.2 (Array.mem_of_getElem? hi'))) h1) (fun s' a' w' hs'' hk=>qim (ρ:=ρ) (m:=m) hn hcv hq fuel _ s' a' w' hs'' hk);simp only;split at this
    ·rename_i hw;rw[if_pos hw];exact this
    ·rename_i hw;rw[if_neg hw];exact⟨fun _ _=>trivial,this⟩⟩
theorem qv5 {E:Env} {id:Nat} {plan:List Itm} {Q:Exit→S→Prop} (hm:P.follows .mixedOrders=true) (hp:qtG E.n ops plan=true) (h:qtF P E.n ops (Q .normal) plan s):VC P E (.region id ops true) s Q :=
 fun ρ m cx Z γ a w hr hn hi hs=>by
  unfold qtG at hp;simp only[Bool.and_eq_true,decide_eq_true_eq]at hp;obtain⟨⟨⟨hcv,hann⟩,hlen⟩,hfrom⟩:=hp;refine wpIn_region_any hm ?_;rw[← hlen];refine qim (ann:=qB9 plan) (Q:=Q .normal) hn (fun o ho=>qGf.1 hcv o ho) (fun s' a' w' ⟨Z',γ',hs'⟩ hq=>⟨s',Z',γ',hs',hq⟩) plan.length _ s a _ ⟨Z,γ,hs.drew⟩ ?_;refine qlZ plan _ s (fun it hit=>?_) (by rw[hlen];exact hfrom) h;have:=qGf.1 hann it hit;simpa using this
end
end Go.Av
end
section
namespace Go.Av
open Go.RowKit
structure AOper where
 g:Option (Nat×Bool)
 d:Option Nat
 op:Op
structure DOper where
 o:AOper
 rd:List Nat
 av:List Nat
 fr:List (Nat×Op)
inductive ACode where
 | skip
 | reg (l:List AOper)
 | draw (l:List DOper)
 | seq (a b:ACode)
 | cond (c:Operand) (a b:ACode)
 | block (id:Nat) (a:ACode)
 | loop (a:ACode)
 | exit (id:Nat)
 | ret
 | rng (g:Operand) (p q:Nat) (a:ACode)
def qum (n:Nat):Option Nat→Bool
 | some d=>decide (d<n)
 | none=>true
def qjf (n:Nat) (ops:Array Oper) (o:Oper):Option AOper :=
 if qum n o.dst then
  match o.guard with
  | none=>some ⟨none,o.dst,o.op⟩
  | some (g,want)=>match (ops[g]?).bind (·.dst)with
   | some d=>some ⟨some (d,want),o.dst,o.op⟩
   | none=>none
 else none
def qlg (n:Nat) (ops:Array Oper):List Oper→Option (List AOper)
 | []=>some []
 | o::r=>match qjf n ops o,qlg n ops r with
  | some a,some l=>some (a::l)
  | _,_=>none
def qp2 (ops:Array Oper):List Nat→Option (List (Nat×Op))
 | []=>some []
 | i::r=>match ops[i]?,qp2 ops r with
  | some o,some l=>match o.dst with
   | some d=>some ((d,o.op)::l)
   | none=>none
  | _,_=>none
def qlh (n:Nat) (ops:Array Oper):List Itm→Option (List DOper)
 | []=>some []
 | it::r=>match ops[it.k]?,qlh n ops r,qp2 ops it.fr with
  | some o,some l,some fr=>match qjf n ops o with
   | some a=>some (⟨a,it.rd,it.av,fr⟩::l)
   | none=>none
  | _,_,_=>none
def qjM:List (Nat×List Itm)→Nat→List Itm
 | [],_=>[]
 | (i,p)::r,j=>if j=i then p else qjM r j
def qyK (ps:Array Tmp) (asg:Code):Option (Nat×Nat):=match ps.toList,asg with
 | [p],.region _ ops false=>match ops.toList with
  | [o]=>match o.op,o.dst,o.guard with
   | .assign (.tmp p'),some q,none=>if p'=p then some (p,q) else none
   | _,_,_=>none
  | _=>none
 | _,_=>none
def qCi (n:Nat) (g:Operand) (ps:Array Tmp) (asg b:Code) (x:Option ACode):Option (Operand×Nat×Nat×ACode):=match qyK ps asg,x with
 | some (p,q),some x=>if p<n∧q<n∧p≠q∧qiO b=true then some (g,p,q,x) else none
 | _,_=>none
def comp (n:Nat) (pl:List (Nat×List Itm)):Code→Option ACode
 | .skip=>some .skip
 | .label _=>some .skip
 | .region _ ops false=>(qlg n ops ops.toList).map .reg
 | .region id ops true=>if qtG n ops (qjM pl id) then (qlh n ops (qjM pl id)).map .draw else none
 | .seq a b=>match comp n pl a,comp n pl b with
  | some x,some y=>some (.seq x y)
  | _,_=>none
 | .cond c a b=>match comp n pl a,comp n pl b with
  | some x,some y=>some (.cond c x y)
  | _,_=>none
 | .block id a=>(comp n pl a).map (.block id)
 | .loop a=>(comp n pl a).map .loop
 | .exit id=>some (.exit id)
 | .ret=>some .ret
 | .rangeFunc g ps asg b=>(qCi n g ps asg b (comp n pl b)).map fun x=>.rng x.1 x.2.1 x.2.2.1 x.2.2.2
 | _=>none
def qeH (r:Option (Prop×S)) (K:S→Prop):Prop :=
 match r with
 | some (p,s')=>p∧K s'
 | none=>False
def qdi (r:Option (Prop×AV)) (d:Option Nat) (s:S) (K:S→Prop):Prop :=
 match r with
 | some (p,v)=>p∧K ⟨qcC s.t d v,s.h,s.u⟩
 | none=>False
def qjs (P:Program) (f:Nat) (args:List AV) (dst:Option Nat) (s:S) (K:S→Prop):Prop :=
 qb1 P f=true∧∃ hv pl argsC L R,CallIn s hv pl args argsC L∧ACall P f argsC L R ∧
  ∀ r L',R r L'→∃ φ,CallOut s hv pl φ r L'∧K (qaf s pl φ dst r L')
def qmK (P:Program) (v:AV) (args:List AV) (dst:Option Nat) (s:S) (K:S→Prop):Prop :=
 match v with
 | .fn f cap=>qjs P f (args++cap) dst s K
 | _=>False
def qbs (P:Program) (op:Op) (d:Option Nat) (s:S) (K:S→Prop):Prop :=
 match op with
 | .call ⟨.value x,args,_⟩=>qmK P (opd s.t x) (args.toList.map (opd s.t)) d s K
 | _=>qeH (opS P ⟨d,op,0,"",#[],none⟩ s) K
def qfB (P:Program) (o:AOper) (s:S) (K:S→Prop):Prop :=
 match o.g with
 | none=>qbs P o.op o.d s K
 | some (g,want)=>match s.t g with
  | .bool b=>(b=want→qbs P o.op o.d s K)∧(b≠want→K ⟨qcC s.t o.d (.tup []),s.h,s.u⟩)
  | .tup _=>K ⟨qcC s.t o.d (.tup []),s.h,s.u⟩
  | _=>False
def qs1 (P:Program) (K:S→Prop):List AOper→S→Prop
 | [],s=>K s
 | o::r,s=>qfB P o s (qs1 P K r)
def qca (P:Program) (rd av:List Nat) (op:Op) (d:Option Nat) (s:S) (K:S→Prop):Prop :=
 if isV op=true then qdi (qbh P s.t (qre rd s.h) ⟨d,op,0,"",#[],none⟩) d s K
 else match isG op with
  | true=>(rdG rd=true→gOk rd op s.t)∧qbs P op d s (fun s'=>qhG av s.h s'.h∧K s')
  | false=>qbs P op d s (fun s'=>qhG av s.h s'.h∧K s')
def qfA (P:Program) (o:DOper) (s:S) (K:S→Prop):Prop :=
 match o.o.g with
 | none=>qca P o.rd o.av o.o.op o.o.d s K
 | some (g,want)=>match s.t g with
  | .bool b=>(b=want→qca P o.rd o.av o.o.op o.o.d s K)∧(b≠want→K ⟨qcC s.t o.o.d (.tup []),s.h,s.u⟩)
  | .tup _=>K ⟨qcC s.t o.o.d (.tup []),s.h,s.u⟩
  | _=>False
def frA (P:Program):List (Nat×Op)→S→Prop
 | [],_=>True
 | (d,op)::r,s=>(qeH (opS P ⟨some d,op,0,"",#[],none⟩ s) (fun _=>True)∧s.h d=none)∧frA P r s
def qjp (P:Program) (K:S→Prop):List DOper→S→Prop
 | [],s=>K s
 | o::r,s=>frA P o.fr s∧qfA P o s (qjp P K r)
section
variable {P:Program} {n:Nat} {E:Env} {s:S} {K:S→Prop}
theorem qox (o:Oper):opS P o s=opS P ⟨o.dst,o.op,0,"",#[],none⟩ s:=by
 obtain⟨d,op,_,_,_,_⟩:=o;rfl
theorem qgI {o:Oper} (hd:qum n o.dst=true) (h:qbs P o.op o.dst s K):qhI P n o s K:=by
 unfold qbs at h;unfold qhI;have hdd:∀ k,o.dst=some k→k<n:=fun k hk=>by rw[hk]at hd;simpa [qum]using hd
 split at h
 ·rename_i x args tys ho;simp only[ho];unfold qmK at h;unfold qjr;split at h
  ·rename_i f cap hx;simp only[hx];exact⟨h.1,hdd,h.2⟩
  ·cases h
 ·rename_i hne;have h2:qhZ n o.dst (opS P o s) K:=by
   unfold qeH at h;unfold qhZ;rw[qox];split at h
   ·rename_i p s' he;simp only[he];refine⟨h.1,?_,h.2⟩;cases hx:o.dst with
    | none=>trivial
    | some k=>exact hdd k hx
   ·cases h
  split
  ·rename_i x args tys ho;exact absurd ho (hne x args tys)
  ·exact h2
theorem qml {ops:Array Oper} {o:Oper} {a:AOper} (hc:qjf n ops o=some a) (h:qfB P a s K):qe3 P n ops o s K:=by
 unfold qjf at hc;split at hc
 ·rename_i hd;have hdd:match o.dst with | some d=>d<n | none=>True:=by
   cases hx:o.dst with
   | none=>trivial
   | some k=>rw[hx]at hd;simpa [qum]using hd
  split at hc
  ·rename_i hg;injection hc with hc;subst hc;unfold qe3;simp only[hg];exact qgI hd h
  ·rename_i g want hg;split at hc
   ·rename_i d hb;injection hc with hc;subst hc;unfold qe3;simp only[hg,hb];unfold qfB at h;simp only at h;split at h
    ·rename_i b hbb;simp only[hbb];exact⟨fun e=>qgI hd (h.1 e),fun e=>⟨hdd,h.2 e⟩⟩
    ·rename_i l hbb;simp only[hbb];exact⟨hdd,h⟩
    ·cases h
   ·cases hc
 ·cases hc
theorem qjC {o:Oper} {K':S→Prop} (hk:∀ s,K s→K' s) (h:qhI P n o s K):qhI P n o s K':=by
 unfold qhI at *
 split at h
 ·unfold qjr at *
  split at h
  ·obtain⟨h1,h2,hv,pl,argsC,L,R,h3,h4,h5⟩:=h;refine⟨h1,h2,hv,pl,argsC,L,R,h3,h4,fun r L' hr=>?_⟩;obtain⟨φ,h6,h7⟩:=h5 r L' hr;exact⟨φ,h6,hk _ h7⟩
  ·exact h
 ·unfold qhZ at *
  split at h
  ·exact⟨h.1,h.2.1,hk _ h.2.2⟩
  ·exact h
theorem qnn {ops:Array Oper} {o:Oper} {K':S→Prop} (hk:∀ s,K s→K' s) (h:qe3 P n ops o s K):qe3 P n ops o s K':=by
 unfold qe3 at *
 split at h
 ·exact qjC hk h
 ·split at h
  ·split at h
   ·exact⟨fun e=>qjC hk (h.1 e),fun e=>⟨(h.2 e).1,hk _ (h.2 e).2⟩⟩
   ·exact⟨h.1,hk _ h.2⟩
   ·exact h
  ·exact h
theorem qoi {ops:Array Oper}:∀ {l:List Oper} {al:List AOper} {s:S},qlg n ops l=some al→qs1 P K al s→qCo P n ops K l s
 | [],al,s,hc,h=>by simp only[qlg,qFQ]at hc;subst hc;exact h
 | o::l,al,s,hc,h=>by
  simp only[qlg]at hc;split at hc
  ·rename_i a al' h1 h2;injection hc with hc;subst hc;exact qnn (fun s' h'=>qoi h2 h') (qml h1 h)
  ·cases hc
theorem qpU (o:Oper) {t:Tm} {h:Hp}:qbh P t h o=qbh P t h ⟨o.dst,o.op,0,"",#[],none⟩:=by
 obtain⟨d,op,_,_,_,_⟩:=o;rfl
theorem qjD {ops:Array Oper} {it:Itm} {o:Oper} (hd:qum n o.dst=true) (h:qca P it.rd it.av o.op o.dst s K):qd5 P n ops it o s K:=by
 have hdd:match o.dst with | some d=>d<n | none=>True:=by
  cases hx:o.dst with
  | none=>trivial
  | some k=>rw[hx]at hd;simpa [qum]using hd
 unfold qca at h;unfold qd5;split at h
 ·rename_i hv;rw[if_pos hv];rw[qpU o];unfold qdi at h;split at h
  ·rename_i p v he
   try simp only[he]
   exact⟨h.1,hdd,h.2⟩
  ·cases h
 ·rename_i hv;rw[if_neg hv];have h2:(qs4 it.rd o.op=true→gOk it.rd o.op s.t)∧qbs P o.op o.dst s (fun s'=>qhG it.av s.h s'.h∧K s'):=by
   split at h
   ·exact⟨fun hm=>h.1 (by unfold qs4 at hm;simp only[Bool.and_eq_true]at hm;exact hm.2),h.2⟩
   ·rename_i hg;exact⟨fun hm=>by unfold qs4 at hm;rw[hg]at hm;simp at hm,h⟩
  have h3:=qgI (n:=n) hd h2.2;unfold qhI at h3;split at h3
  ·rename_i ho;simp only[ho];exact h3
  ·rename_i hne;split
   ·rename_i ho;exact absurd ho (hne _ _ _)
   ·exact⟨h2.1,h3⟩
theorem qmk {ops:Array Oper} {it:Itm} {o:Oper} {a:AOper} {fr:List (Nat×Op)} (hc:qjf n ops o=some a) (h:qfA P ⟨a,it.rd,it.av,fr⟩ s K):qaG P n ops it o s K:=by
 unfold qjf at hc;split at hc
 ·rename_i hd;have hdd:match o.dst with | some d=>d<n | none=>True:=by
   cases hx:o.dst with
   | none=>trivial
   | some k=>rw[hx]at hd;simpa [qum]using hd
  split at hc
  ·rename_i hg;injection hc with hc;subst hc;unfold qaG qfV;simp only[hg];exact qjD hd h
  ·rename_i g want hg;split at hc
   ·rename_i d hb;injection hc with hc;subst hc;unfold qaG qfV;simp only[hg,hb];unfold qfA at h;simp only at h;cases ht:s.t d <;> simp only[ht]at h ⊢
    ·rename_i b;by_cases hbw:b=want
     ·subst hbw;simp only[beq_self_eq_true];exact qjD hd (h.1 rfl)
     ·have:(b == want)=false:=by simpa using hbw
      simp only[this];exact⟨hdd,h.2 hbw⟩
    ·exact⟨hdd,h⟩
   ·cases hc
 ·cases hc
theorem qvz {ops:Array Oper}:∀ {l:List Nat} {fr:List (Nat×Op)},qp2 ops l=some fr→frA P fr s→qC0 P (qBv ops l) s
 | [],fr,hc,h=>trivial
 | i::r,fr,hc,h=>by
  simp only[qp2]at hc;split at hc
  ·rename_i o l h1 h2;split at hc
   ·rename_i d hd;injection hc with hc;subst hc;have hf:qBv ops (i::r)=o::qBv ops r:=by simp[qBv,h1]
    rw[hf];refine⟨⟨?_,by rw[hd];exact h.1.2⟩,qvz h2 h.2⟩;have h3:=h.1.1;rw[qox,hd];unfold qeH at h3;split at h3
    ·rename_i p s' he;(try simp only[he]);exact h3.1
    ·exact h3.elim
   ·cases hc
  ·cases hc
theorem qjY {ops:Array Oper}:∀ {plan:List Itm} {l:List DOper} {s:S},qlh n ops plan=some l→qjp P K l s→qtF P n ops K plan s
 | [],l,s,hc,h=>by simp only[qlh,qFQ]at hc;subst hc;exact h
 | it::r,l,s,hc,h=>by
  simp only[qlh]at hc;split at hc
  ·rename_i o l' fr h1 h2 h3;split at hc
   ·rename_i a h4;injection hc with hc;subst hc;refine⟨qvz h3 h.1,?_⟩;rw[h1];exact qc0 (fun s' h'=>qjY h2 h') (qmk h4 h.2)
   ·cases hc
  ·cases hc
def VA (P:Program) (E:Env) (a:ACode) (s:S) (Q:Exit→S→Prop):Prop:=∀ pl c,comp E.n pl c=some a→VC P E c s Q
variable {Q:Exit→S→Prop}
theorem qje {pl:List (Nat×List Itm)} {c:Code} (h:comp n pl c=some .skip):c=.skip∨∃ l,c=.label l:=by
 cases c with
 | skip=>exact .inl rfl
 | label l=>exact .inr ⟨l,rfl⟩
 | region id ops b=>cases b <;> simp[comp,Option.map]at h <;> (try split at h) <;> (try simp at h) <;> (try split at h) <;> (try simp at h)
 | seq a b=>simp only[comp]at h;split at h <;> simp at h
 | cond c a b=>simp only[comp]at h;split at h <;> simp at h
 | block id a=>simp[comp]at h
 | loop a=>simp[comp]at h
 | _=>simp[comp]at h
theorem qv7 (h:Q .normal s):VA P E .skip s Q:=fun pl c hc=>by
 rcases qje hc with rfl | ⟨l,rfl⟩
 ·exact qv1 h
 ·exact qs5 h
theorem qzp {l:List AOper} (h:qs1 P (Q .normal) l s):VA P E (.reg l) s Q:=fun pl c hc=>by
 cases c with
 | region id ops b =>
  cases b with
  | false =>
   simp only[comp,qHE,ACode.reg.injEq]at hc;obtain⟨l',h1,rfl⟩:=hc;have:=qqp (P:=P) (E:=E) (id:=id) (l:=ops.toList) (Q:=Q) (s:=s) (qoi (by simpa using h1) h);simpa using this
  | true=>simp[comp,Option.map]at hc;split at hc <;> simp at hc
 | seq a b=>simp only[comp]at hc;split at hc <;> simp at hc
 | cond c a b=>simp only[comp]at hc;split at hc <;> simp at hc
 | block id a=>simp[comp]at hc
 | loop a=>simp[comp]at hc
 | _=>simp[comp]at hc
theorem qwa {l:List DOper} (hm:P.follows .mixedOrders=true) (h:qjp P (Q .normal) l s):VA P E (.draw l) s Q:=fun pl c hc=>by
 cases c with
 | region id ops b =>
  cases b with
  | false=>simp[comp,Option.map]at hc;split at hc <;> simp at hc
  | true =>
   simp only[comp]at hc;split at hc
   ·rename_i hp;simp only[qHE,ACode.draw.injEq]at hc;obtain⟨l',h1,rfl⟩:=hc;exact qv5 hm hp (qjY h1 h)
   ·cases hc
 | seq a b=>simp only[comp]at hc;split at hc <;> simp at hc
 | cond c a b=>simp only[comp]at hc;split at hc <;> simp at hc
 | block id a=>simp[comp]at hc
 | loop a=>simp[comp]at hc
 | _=>simp[comp]at hc
theorem qju {x y:ACode} (h:VA P E x s (qfv (fun s'=>VA P E y s' Q) Q)):VA P E (.seq x y) s Q:=fun pl c hc=>by
 cases c with
 | seq a b =>
  simp only[comp]at hc;split at hc
  ·rename_i x' y' h1 h2;injection hc with hc;injection hc with e1 e2;subst e1;subst e2;refine qzk ((h pl a h1).mono fun e s' h'=>?_);cases e with
   | normal=>exact h' pl b h2
   | _=>exact h'
  ·cases hc
 | region id ops b=>cases b <;> simp[comp,Option.map]at hc <;> (try split at hc) <;> (try simp at hc) <;> (try split at hc) <;> (try simp at hc)
 | cond c a b=>simp only[comp]at hc;split at hc <;> simp at hc
 | block id a=>simp[comp]at hc
 | loop a=>simp[comp]at hc
 | _=>simp[comp]at hc
theorem qwc {c:Operand} {x y:ACode} {b:Bool} (hb:opd s.t c=.bool b) (ht:b=true→VA P E x s Q) (hf:b=false→VA P E y s Q):VA P E (.cond c x y) s Q:=fun pl k hc=>by
 cases k with
 | cond c' a b =>
  simp only[comp]at hc;split at hc
  ·rename_i x' y' h1 h2;injection hc with hc;injection hc with e0 e1 e2;subst e0;subst e1;subst e2;exact qv6 hb (fun e=>ht e pl a h1) (fun e=>hf e pl b h2)
  ·cases hc
 | region id ops b=>cases b <;> simp[comp,Option.map]at hc <;> (try split at hc) <;> (try simp at hc) <;> (try split at hc) <;> (try simp at hc)
 | seq a b=>simp only[comp]at hc;split at hc <;> simp at hc
 | block id a=>simp[comp]at hc
 | loop a=>simp[comp]at hc
 | _=>simp[comp]at hc
theorem qm1 {c:Operand} {x y:ACode} (hb:opd s.t c=.anyb) (ht:VA P E x s Q) (hf:VA P E y s Q):VA P E (.cond c x y) s Q:=fun pl k hc=>by
 cases k with
 | cond c' a b =>
  simp only[comp]at hc;split at hc
  ·rename_i x' y' h1 h2;injection hc with hc;injection hc with e0 e1 e2;subst e0;subst e1;subst e2;exact qm0 hb (ht pl a h1) (hf pl b h2)
  ·cases hc
 | region id ops b=>cases b <;> simp[comp,Option.map]at hc <;> (try split at hc) <;> (try simp at hc) <;> (try split at hc) <;> (try simp at hc)
 | seq a b=>simp only[comp]at hc;split at hc <;> simp at hc
 | block id a=>simp[comp]at hc
 | loop a=>simp[comp]at hc
 | _=>simp[comp]at hc
theorem qs8 {id:Nat} {x:ACode} (h:VA P E x s (qfK id Q)):VA P E (.block id x) s Q:=fun pl c hc=>by
 cases c with
 | block id' a =>
  simp only[comp,qHE,ACode.block.injEq]at hc;obtain⟨l',h1,rfl,rfl⟩:=hc;exact qs6 (h pl a h1)
 | region id ops b=>cases b <;> simp[comp,Option.map]at hc <;> (try split at hc) <;> (try simp at hc) <;> (try split at hc) <;> (try simp at hc)
 | seq a b=>simp only[comp]at hc;split at hc <;> simp at hc
 | cond c a b=>simp only[comp]at hc;split at hc <;> simp at hc
 | loop a=>simp[comp]at hc
 | _=>simp[comp]at hc
theorem qv8 {x:ACode} (I:Nat→S→Prop) (k:Nat) (h0:I k s)
  (round:∀ k s,I k s→VA P E x s (qfv (fun s'=>∃ k',k'<k∧I k' s') Q)):VA P E (.loop x) s Q:=fun pl c hc=>by
 cases c with
 | loop a =>
  simp only[comp,qHE,ACode.loop.injEq]at hc;obtain⟨l',h1,rfl⟩:=hc;exact qv3 I k h0 fun k s hI=>round k s hI pl a h1
 | region id ops b=>cases b <;> simp[comp,Option.map]at hc <;> (try split at hc) <;> (try simp at hc) <;> (try split at hc) <;> (try simp at hc)
 | seq a b=>simp only[comp]at hc;split at hc <;> simp at hc
 | cond c a b=>simp only[comp]at hc;split at hc <;> simp at hc
 | block id a=>simp[comp]at hc
 | _=>simp[comp]at hc
theorem qv9 {id:Nat} (h:Q (.exit id) s):VA P E (.exit id) s Q:=fun pl c hc=>by
 cases c with
 | exit id' =>
  simp only[comp,qFQ,ACode.exit.injEq]at hc;subst hc;exact qv4 h
 | region id ops b=>cases b <;> simp[comp,Option.map]at hc <;> (try split at hc) <;> (try simp at hc) <;> (try split at hc) <;> (try simp at hc)
 | seq a b=>simp only[comp]at hc;split at hc <;> simp at hc
 | cond c a b=>simp only[comp]at hc;split at hc <;> simp at hc
 | block id a=>simp[comp]at hc
 | loop a=>simp[comp]at hc
 | _=>simp[comp]at hc
theorem qzo (h:Q .ret s):VA P E .ret s Q:=fun pl c hc=>by
 cases c with
 | ret=>exact qzl h
 | region id ops b=>cases b <;> simp[comp,Option.map]at hc <;> (try split at hc) <;> (try simp at hc) <;> (try split at hc) <;> (try simp at hc)
 | seq a b=>simp only[comp]at hc;split at hc <;> simp at hc
 | cond c a b=>simp only[comp]at hc;split at hc <;> simp at hc
 | block id a=>simp[comp]at hc
 | loop a=>simp[comp]at hc
 | _=>simp[comp]at hc
theorem VA.mono {c:ACode} {Q':Exit→S→Prop} (h:VA P E c s Q) (hq:∀ e s,Q e s→Q' e s):VA P E c s Q':=fun pl k hk=>(h pl k hk).mono hq
theorem qqq {c:ACode} {s':S} (hw:SW E s s') (h:VA P E c s' Q):VA P E c s Q:=fun pl k hk=>qzm hw (h pl k hk)
theorem qqr {c:ACode} (h:VA P E c s fun e s'=>∃ s'',SW E s' s''∧Q e s''):VA P E c s Q:=fun pl k hk=>qv2 (h pl k hk)
theorem qsV {f:Nat} (hbd:hasBody P f=true) {fn:Func} {ac:ACode} {args:List AV} {L:List (Nat×Ob)} {R:AV→List (Nat×Ob)→Prop} (n:Nat) (pl:List (Nat×List Itm)) (rs:List ResultVar) (hf:P.funcs[f]?=some fn) (hc:fn.body.bind (comp n pl)=some ac) (hn:fn.ntmps=n)
  (hr:fn.results.toList=rs) (ha:args.length≤n) (hL:(L.map (·.1)).Nodup)
  (h:VA P ⟨n,L.map (·.1)⟩ ac ⟨qsT args,qaQ L,Us.of (L.map (·.1))⟩ (qof P rs R)):ACall P f args L R:=by
 subst hn;subst hr;cases hb:fn.body with
 | none=>simp[hb]at hc
 | some b =>
  rw[hb]at hc;exact qEO hbd hf hb ha hL (h pl b hc)
end
end Go.Av
end
section
namespace Go.Av
open Go.RowKit
section
variable {P:Program} {s:S} {K:S→Prop} {d:Option Nat} {k:Nat}
@[simp] theorem qCp:qs1 P K [] s=K s:=rfl
@[simp] theorem qAv (o:AOper) (r:List AOper):qs1 P K (o::r) s=qfB P o s (qs1 P K r):=rfl
@[simp] theorem qx2 (op:Op):qfB P ⟨none,d,op⟩ s K=qbs P op d s K:=rfl
def gd (P:Program) (g:Nat) (want:Bool) (op:Op) (d:Option Nat) (s:S) (K:S→Prop):AV→Prop
 | .bool b=>(b=want→qbs P op d ⟨upd s.t g (.bool want),s.h,s.u⟩ K)∧(b=(!want)→K ⟨qcC (upd s.t g (.bool (!want))) d (.tup []),s.h,s.u⟩)
 | .tup _=>K ⟨qcC s.t d (.tup []),s.h,s.u⟩
 | _=>False
theorem qnX {α:Type} (f:Nat→α) (k:Nat) (v:α) (h:f k=v):upd f k v=f:=by
 funext i;unfold upd;split
 ·rename_i hi;rw[hi,h]
 ·rfl
theorem qnr (g:Nat) (want:Bool) (op:Op):qfB P ⟨some (g,want),d,op⟩ s K=gd P g want op d s K (s.t g):=by
 simp only[qfB,gd];cases hv:s.t g <;> try rfl
 rename_i b;simp only;cases b <;> cases want <;> simp[qnX _ _ _ hv]
attribute [simp] qnr
@[simp] theorem qFw (g:Nat) (op:Op):gd P g true op d s K (.bool true)=qbs P op d ⟨upd s.t g (.bool true),s.h,s.u⟩ K:=by simp[gd]
@[simp] theorem qFz (g:Nat) (op:Op):gd P g false op d s K (.bool false)=qbs P op d ⟨upd s.t g (.bool false),s.h,s.u⟩ K:=by simp[gd]
@[simp] theorem qFx (g:Nat) (op:Op):gd P g true op d s K (.bool false)=K ⟨qcC (upd s.t g (.bool false)) d (.tup []),s.h,s.u⟩:=by simp[gd]
@[simp] theorem qFy (g:Nat) (op:Op):gd P g false op d s K (.bool true)=K ⟨qcC (upd s.t g (.bool true)) d (.tup []),s.h,s.u⟩:=by simp[gd]
@[simp low] theorem qEg (g:Nat) (want b:Bool) (op:Op):gd P g want op d s K (.bool b)=((b=want→qbs P op d ⟨upd s.t g (.bool want),s.h,s.u⟩ K)∧(b=(!want)→K ⟨qcC (upd s.t g (.bool (!want))) d (.tup []),s.h,s.u⟩)):=rfl
@[simp] theorem qEX (g:Nat) (want:Bool) (l:List AV) (op:Op):gd P g want op d s K (.tup l)=K ⟨qcC s.t d (.tup []),s.h,s.u⟩:=rfl
@[simp] theorem qAD (p:Prop) (s':S):qeH (some (p,s')) K=(p∧K s'):=rfl
@[simp] theorem qAE:qeH none K=False:=rfl
@[simp] theorem qAB (p:Prop) (v:AV):qdi (some (p,v)) d s K=(p∧K ⟨qcC s.t d v,s.h,s.u⟩):=rfl
@[simp] theorem qAC:qdi none d s K=False:=rfl
@[simp] theorem qDO (t:Tm) (i:Nat):opd t (.tmp i)=t i:=rfl
@[simp] theorem qDQ (t:Tm) (kk:IntKind) (n:Int):opd t (.const (.int kk n))=.int kk n:=rfl
@[simp] theorem qCw (t:Tm) (b:Bool):opd t (.const (.bool b))=.bool b:=rfl
@[simp] theorem qDP (t:Tm) (a:Array UInt8):opd t (.const (.string ⟨a⟩))=.str a.toList:=rfl
@[simp] theorem qCt (t:Tm):opd t (.const (.pointer none))=.nilp:=rfl
@[simp] theorem qCs (t:Tm):opd t (.const (.slice none 0 0))=.nils:=rfl
@[simp] theorem qCu (t:Tm):opd t (.const .nilIface)=.nili:=rfl
@[simp] theorem qDR (t:Tm) (cs:Array Value):opd t (.const (.agg cs))=.agg (cs.toList.map av1):=rfl
@[simp] theorem qCv (t:Tm) (f:Nat):opd t (.func f)=.fn f []:=rfl
attribute [simp] av1
@[simp] theorem qAy (t:Tm) (k:Nat) (v:AV):qcC t (some k) v=upd t k v:=rfl
@[simp] theorem qAz (t:Tm) (v:AV):qcC t none v=t:=rfl
@[simp] theorem qC2 {α:Type} (f:Nat→α) (k:Nat) (v:α) (i:Nat):upd f k v i=if i=k then v else f i:=rfl
@[simp] theorem qDZ (i:Nat):mkT [] i=.top:=rfl
@[simp] theorem qCF (j:Nat) (v:AV) (r:List (Nat×AV)) (i:Nat):mkT ((j,v)::r) i=if i=j then v else mkT r i:=rfl
@[simp] theorem qub (i:Nat):qaQ [] i=none:=rfl
@[simp] theorem qe2 (j:Nat) (o:Ob) (r:List (Nat×Ob)) (i:Nat):qaQ ((j,o)::r) i=if i=j then some o else qaQ r i:=by simp only[qaQ]
attribute [simp] Us.mem_cons Us.mem_app Us.mem_of
@[simp] theorem qCW (l:List AV) (i:Nat):qsT l i=l.getD i .top:=rfl
theorem qbi (op:Op):qeH (qfN P ⟨d,op,0,"",#[],none⟩ s) K=qdi (qbh P s.t s.h ⟨d,op,0,"",#[],none⟩) d s K:=by
 unfold qfN;cases qbh P s.t s.h ⟨d,op,0,"",#[],none⟩with
 | none=>rfl
 | some r=>obtain⟨p,v⟩:=r;rfl
@[simp] theorem qyW (x:Operand):qbs P (.move x) d s K=K ⟨qcC s.t d (opd s.t x),s.h,s.u⟩:=by
 show qeH (qfN P ⟨d,.move x,0,"",#[],none⟩ s) K=_;rw[qbi];simp[qbh]
@[simp] theorem qu5 (x:Operand):qbs P (.assign x) d s K=K ⟨qcC s.t d (opd s.t x),s.h,s.u⟩:=by
 show qeH (qfN P ⟨d,.assign x,0,"",#[],none⟩ s) K=_;rw[qbi];simp[qbh]
def qsp (c a b:AV):Option (Prop×AV) :=
 match c with
 | .bool c=>some (True,if c=true then a else b)
 | _=>none
@[simp] theorem qx9 (c:Bool) (a b:AV):qsp (.bool c) a b=some (True,if c=true then a else b):=rfl
@[simp] theorem qyV (c a b:Operand):qbs P (.pick c a b) d s K=qdi (qsp (opd s.t c) (opd s.t a) (opd s.t b)) d s K:=by
 show qeH (qfN P ⟨d,.pick c a b,0,"",#[],none⟩ s) K=_;rw[qbi];rfl
@[simp] theorem qwJ (ty:Nat) (parts:Array (Nat×Operand)):qbs P (.build ty parts) d s K=qdi (qhg P ty (parts.toList.map fun x=>(x.1,opd s.t x.2))) d s K:=by
 show qeH (qfN P ⟨d,.build ty parts,0,"",#[],none⟩ s) K=_;rw[qbi];rfl
@[simp] theorem qyX (ty:Nat) (a:Operand):qbs P (.load ty a) d s K=qdi (qfF P s.h ty (opd s.t a)) d s K:=by
 show qeH (qfN P ⟨d,.load ty a,0,"",#[],none⟩ s) K=_;rw[qbi];rfl
def qEp (x:AV):Option (Prop×AV) :=
 match x with
  | .ptr id e k=>some (True,.ptr id e k)
  | .elm cs=>some (True,.elm cs)
  | .fn f c=>some (True,.fn f c)
  | _=>none
@[simp] theorem qsY (x:Operand):qbs P (.nilCheck x) d s K=qdi (qEp (opd s.t x)) d s K:=by
 show qeH (qfN P ⟨d,.nilCheck x,0,"",#[],none⟩ s) K=_;rw[qbi];rfl
@[simp] theorem qwK (op:BinOp) (xt:Nat) (x y:Operand) (yt:Nat):qbs P (.binOp op xt x y yt) d s K=qdi (qpZ P op xt x y (opd s.t x) (opd s.t y)) d s K:=by
 show qeH (qfN P ⟨d,.binOp op xt x y yt,0,"",#[],none⟩ s) K=_;rw[qbi];rfl
@[simp] theorem qyU (op:UnOp) (xt:Nat) (x:Operand):qbs P (.unOp op xt x) d s K=qdi (qy9 op (opd s.t x)) d s K:=by
 show qeH (qfN P ⟨d,.unOp op xt x,0,"",#[],none⟩ s) K=_;rw[qbi];rfl
def qyt (r:Option (Prop×AV)) (b:Option (Prop×S)) (k:Nat) (s:S) (K:S→Prop):Prop :=
 match r with
 | some (p,v)=>p∧K ⟨upd s.t k v,s.h,s.u⟩
 | none=>qeH b K
@[simp] theorem qzc (p:Prop) (v:AV) (b:Option (Prop×S)):qyt (some (p,v)) b k s K=(p∧K ⟨upd s.t k v,s.h,s.u⟩):=rfl
@[simp] theorem qzd (b:Option (Prop×S)):qyt none b k s K=qeH b K:=rfl
@[simp] theorem qtm (sr ds:Nat) (x:Operand):qbs P (.convert sr ds x) (some k) s K=qyt (qdS P s.h sr ds (opd s.t x)) (qfY P s k sr ds (opd s.t x)) k s K:=by
 show qeH (opS P ⟨some k,.convert sr ds x,0,"",#[],none⟩ s) K=_;simp only[opS,qbh];cases qdS P s.h sr ds (opd s.t x)with
 | none=>rfl
 | some r=>obtain⟨p,v⟩:=r;rfl
@[simp] theorem qsZ (f:Nat) (cap:Array Operand):qbs P (.makeFunc (.func f) #[] cap) d s K=K ⟨qcC s.t d (.fn f (cap.toList.map (opd s.t))),s.h,s.u⟩:=by
 show qeH (qfN P ⟨d,.makeFunc (.func f) #[] cap,0,"",#[],none⟩ s) K=_;rw[qbi];simp[qbh]
@[simp] theorem qwG (ty:Nat) (x:Operand) (lo hi:Option Operand):qbs P (.slice ty x lo hi none) d s K=qdi (qcr P s.h ty (opd s.t x) (lo.map (opd s.t)) (hi.map (opd s.t))) d s K:=by
 show qeH (qfN P ⟨d,.slice ty x lo hi none,0,"",#[],none⟩ s) K=_;rw[qbi];rfl
@[simp] theorem qqR (ty:Nat) (x:Operand) (f:Nat):qbs P (.fieldAddr ty x f) d s K=qdi (qcj P ty f (opd s.t x)) d s K:=by
 show qeH (qfN P ⟨d,.fieldAddr ty x f,0,"",#[],none⟩ s) K=_;rw[qbi];rfl
@[simp] theorem qqQ (ty:Nat) (x i:Operand):qbs P (.indexAddr ty x i) d s K=qdi (qcz P s.h ty (opd s.t x) (opd s.t i)) d s K:=by
 show qeH (qfN P ⟨d,.indexAddr ty x i,0,"",#[],none⟩ s) K=_;rw[qbi];rfl
@[simp] theorem qwH (ty:Nat) (x i:Operand):qbs P (.index ty x i) d s K=qdi (qhe P ty (opd s.t x) (opd s.t i)) d s K:=by
 show qeH (qfN P ⟨d,.index ty x i,0,"",#[],none⟩ s) K=_;rw[qbi];rfl
def qya (x:AV) (ix:Nat):Option (Prop×AV) :=
 match x with
  | .tup vs=>match vs[ix]? with
   | some v=>some (True,v)
   | none=>none
  | _=>none
@[simp] theorem qtl (x:Operand) (ix:Nat):qbs P (.extract x ix) d s K=qdi (qya (opd s.t x) ix) d s K:=by
 show qeH (qfN P ⟨d,.extract x ix,0,"",#[],none⟩ s) K=_;rw[qbi];rfl
@[simp] theorem qzP (x:Operand) (ty:Nat):qbs P (.call ⟨.builtin .len,#[x],#[ty]⟩) d s K=qdi (qpX P ty (opd s.t x)) d s K:=by
 show qeH (qfN P ⟨d,.call ⟨.builtin .len,#[x],#[ty]⟩,0,"",#[],none⟩ s) K=_;rw[qbi];rfl
def qBx (x y:AV):Option (Prop×AV) :=
 match x,y with
 | .int k m,.int _ n=>some (True,.int k (if n<m then n else m))
 | _,_=>none
@[simp] theorem qzO (x y:Operand) (tys:Array Nat):qbs P (.call ⟨.builtin .min,#[x,y],tys⟩) d s K=qdi (qBx (opd s.t x) (opd s.t y)) d s K:=by
 show qeH (qfN P ⟨d,.call ⟨.builtin .min,#[x,y],tys⟩,0,"",#[],none⟩ s) K=_;rw[qbi];rfl
@[simp] theorem qwL (ty:Nat):qbs P (.alloc ty) (some k) s K=qeH (qex P s k ty) K:=rfl
@[simp] theorem qzR (ty:Nat) (x:Operand):qbs P (.box ty x) (some k) s K=qeH (qk2 P s k ty (opd s.t x)) K:=rfl
@[simp] theorem qqd (ty len:Nat) (parts:Array (Nat×Operand)):qbs P (.buildSlice ty len parts) (some k) s K=qeH (qby P s k ty len (parts.toList.map fun x=>(x.1,opd s.t x.2))) K:=rfl
@[simp] theorem qqP (ty:Nat) (x y:Operand):qbs P (.makeSlice ty x y) (some k) s K=qeH (qfE P s k ty (opd s.t x) (opd s.t y)) K:=rfl
@[simp] theorem qwF (ty:Nat) (x y:Operand):qbs P (.store ty x y) none s K=qeH (qfX P s ty (opd s.t x) (opd s.t y)) K:=rfl
@[simp] theorem qu6 (ty xt:Nat) (x y:Operand):qbs P (.call ⟨.builtin .append,#[x,y],#[ty,xt]⟩) (some k) s K=qeH (qfx P s k ty xt (opd s.t x) (opd s.t y)) K:=rfl
@[simp] theorem qza (ty xt:Nat) (y:AV):qfx P s k ty xt .nils y=qb8 P s k ty xt .nils y:=rfl
@[simp] theorem qCT (ty xt id e len:Nat) (y:AV):qfx P s k ty xt (.sl id e len) y=qb8 P s k ty xt (.sl id e len) y:=rfl
@[simp] theorem quj (ty xt id e len cap:Nat) (kk:IntKind) (n:Int):qfx P s k ty xt (.slc id e len cap) (.int kk n)=if 0≤n then qdH P s k ty xt id e len cap n.toNat else none:=rfl
@[simp] theorem qvA (ty xt id e len cap i2 e2 l2:Nat):qfx P s k ty xt (.slc id e len cap) (.sl i2 e2 l2)=qcM P s k ty xt id e len cap (.sl i2 e2 l2):=rfl
@[simp] theorem quh (ty xt id e len cap i2 e2 l2 c2:Nat):qfx P s k ty xt (.slc id e len cap) (.slc i2 e2 l2 c2)=qcM P s k ty xt id e len cap (.slc i2 e2 l2 c2):=rfl
@[simp] theorem qui (ty xt id e len cap sz:Nat) (els:List (List AV)):qfx P s k ty xt (.slc id e len cap) (.lst sz els)=qcM P s k ty xt id e len cap (.lst sz els):=rfl
@[simp] theorem qBy (ty xt sz:Nat) (els:List (List AV)) (y:AV):qfx P s k ty xt (.lst sz els) y=qb8 P s k ty xt (.lst sz els) y:=rfl
@[simp] theorem qyY (ty xt:Nat) (x y:Operand):qbs P (.call ⟨.builtin .copy,#[x,y],#[ty,xt]⟩) d s K=qeH (qgr P s d ty (opd s.t x) (opd s.t y)) K:=rfl
@[simp] theorem qwI (ty:Nat) (x:Operand):qbs P (.call ⟨.builtin .clear,#[x],#[ty]⟩) none s K=qeH (qew P s ty (opd s.t x)) K:=rfl
@[simp] theorem qzQ (x:Operand) (ty:Nat):qbs P (.call ⟨.builtin .cap,#[x],#[ty]⟩) d s K=qdi (qsq P ty (opd s.t x)) d s K:=by
 show qeH (qfN P ⟨d,.call ⟨.builtin .cap,#[x],#[ty]⟩,0,"",#[],none⟩ s) K=_;rw[qbi];rfl
@[simp] theorem qu4 (ty:Nat) (x m:Operand) (lo hi:Option Operand):qbs P (.slice ty x lo hi (some m)) d s K=qdi (qfq P s.h ty (opd s.t x) (lo.map (opd s.t)) (hi.map (opd s.t)) (opd s.t m)) d s K:=by
 show qeH (qfN P ⟨d,.slice ty x lo hi (some m),0,"",#[],none⟩ s) K=_;rw[qbi];rfl
@[simp] theorem qyZ (x:Operand) (args:Array Operand) (tys:Array Nat):qbs P (.call ⟨.value x,args,tys⟩) d s K=qmK P (opd s.t x) (args.toList.map (opd s.t)) d s K:=rfl
@[simp] theorem qB2 (f:Nat) (cap args:List AV):qmK P (.fn f cap) args d s K=qjs P f (args++cap) d s K:=rfl
attribute [simp] qgr qew qsq qfq qcM qdH qwQ qhy qfF qcj qcz qcr qhe qi5 qpX qug quf qpZ qy9 qEp qya qBx qdS qfY qex qk2 qby qfE qfX qb8 qhg qei qbm TD.agg qfh qiK qmv qkB qkC qa4 bOf isC splice
@[simp] theorem qCB (k:IntKind) (n:Int):qdn (.int k n)=true:=rfl
@[simp] theorem qAL (b:Bool):qdn (.bool b)=true:=rfl
@[simp] theorem qCx (b:List UInt8):qdn (.str b)=true:=rfl
@[simp] theorem qAJ:qdn .nilp=true:=rfl
@[simp] theorem qAI:qdn .nils=true:=rfl
@[simp] theorem qAK:qdn .nili=true:=rfl
@[simp] theorem qCC:qdn .ifc=true:=rfl
@[simp] theorem qCz (a b c:Nat):qdn (.ptr a b c)=true:=rfl
@[simp] theorem qDU (a b c:Nat):qdn (.sl a b c)=true:=rfl
@[simp] theorem qCy (a b c e:Nat):qdn (.slc a b c e)=true:=rfl
@[simp] theorem qCA (a:Nat) (b:List (List AV)):qdn (.lst a b)=true:=rfl
@[simp] theorem qCD (b:List AV):qdn (.elm b)=true:=rfl
@[simp] theorem qDV (f:Nat) (b:List AV):qdn (.fn f b)=true:=rfl
attribute [simp] qmx qfD qpz qvv
@[simp] theorem qBH:qjp P K [] s=K s:=rfl
@[simp] theorem qzb (o:DOper) (r:List DOper):qjp P K (o::r) s=(frA P o.fr s∧qfA P o s (qjp P K r)):=rfl
@[simp] theorem qEk:frA P [] s=True:=rfl
@[simp] theorem qCR (k:Nat) (op:Op) (r:List (Nat×Op)):frA P ((k,op)::r) s=((qeH (opS P ⟨some k,op,0,"",#[],none⟩ s) (fun _=>True)∧s.h k=none)∧frA P r s):=rfl
@[simp] theorem qAG (ty:Nat):opS P ⟨some k,.alloc ty,0,"",#[],none⟩ s=qex P s k ty:=rfl
@[simp] theorem qDT (ty:Nat) (x:Operand):opS P ⟨some k,.box ty x,0,"",#[],none⟩ s=qk2 P s k ty (opd s.t x):=rfl
@[simp] theorem qs3 (ty len:Nat) (parts:Array (Nat×Operand)):opS P ⟨some k,.buildSlice ty len parts,0,"",#[],none⟩ s=qby P s k ty len (parts.toList.map fun x=>(x.1,opd s.t x.2)):=rfl
@[simp] theorem qtL (ty:Nat) (x y:Operand):opS P ⟨some k,.makeSlice ty x y,0,"",#[],none⟩ s=qfE P s k ty (opd s.t x) (opd s.t y):=rfl
@[simp] theorem qx1 (op:Op) (rd av:List Nat) (fr:List (Nat×Op)):qfA P ⟨⟨none,d,op⟩,rd,av,fr⟩ s K=qca P rd av op d s K:=rfl
def gdD (P:Program) (g:Nat) (want:Bool) (rd av:List Nat) (op:Op) (d:Option Nat) (s:S) (K:S→Prop):AV→Prop
 | .bool b=>(b=want→qca P rd av op d ⟨upd s.t g (.bool want),s.h,s.u⟩ K)∧(b=(!want)→K ⟨qcC (upd s.t g (.bool (!want))) d (.tup []),s.h,s.u⟩)
 | .tup _=>K ⟨qcC s.t d (.tup []),s.h,s.u⟩
 | _=>False
@[simp] theorem qx0 (g:Nat) (want:Bool) (op:Op) (rd av:List Nat) (fr:List (Nat×Op)):qfA P ⟨⟨some (g,want),d,op⟩,rd,av,fr⟩ s K=gdD P g want rd av op d s K (s.t g):=by
 simp only[qfA,gdD];cases hv:s.t g <;> try rfl
 rename_i b;simp only;cases b <;> cases want <;> simp[qnX _ _ _ hv]
@[simp] theorem qEY (g:Nat) (op:Op) (rd av:List Nat):gdD P g true rd av op d s K (.bool true)=qca P rd av op d ⟨upd s.t g (.bool true),s.h,s.u⟩ K:=by simp[gdD]
@[simp] theorem qE1 (g:Nat) (op:Op) (rd av:List Nat):gdD P g false rd av op d s K (.bool false)=qca P rd av op d ⟨upd s.t g (.bool false),s.h,s.u⟩ K:=by simp[gdD]
@[simp] theorem qEZ (g:Nat) (op:Op) (rd av:List Nat):gdD P g true rd av op d s K (.bool false)=K ⟨qcC (upd s.t g (.bool false)) d (.tup []),s.h,s.u⟩:=by simp[gdD]
@[simp] theorem qE0 (g:Nat) (op:Op) (rd av:List Nat):gdD P g false rd av op d s K (.bool true)=K ⟨qcC (upd s.t g (.bool true)) d (.tup []),s.h,s.u⟩:=by simp[gdD]
@[simp low] theorem qCK (g:Nat) (want b:Bool) (op:Op) (rd av:List Nat):gdD P g want rd av op d s K (.bool b)=((b=want→qca P rd av op d ⟨upd s.t g (.bool want),s.h,s.u⟩ K)∧(b=(!want)→K ⟨qcC (upd s.t g (.bool (!want))) d (.tup []),s.h,s.u⟩)):=rfl
@[simp] theorem qEh (g:Nat) (want:Bool) (l:List AV) (op:Op) (rd av:List Nat):gdD P g want rd av op d s K (.tup l)=K ⟨qcC s.t d (.tup []),s.h,s.u⟩:=rfl
@[simp] theorem qCf (rd:List Nat) (h:Hp) (id:Nat):qre rd h id=if rd.contains id then h id else none:=rfl
attribute [simp] qhG
@[simp] theorem qyR (rd av:List Nat) (ty:Nat) (a:Operand):qca P rd av (.load ty a) d s K=qdi (qfF P (qre rd s.h) ty (opd s.t a)) d s K:=by
 show qdi _ d s K=_;rfl
@[simp] theorem qwC (rd av:List Nat) (ty:Nat) (parts:Array (Nat×Operand)):qca P rd av (.build ty parts) d s K=qdi (qhg P ty (parts.toList.map fun x=>(x.1,opd s.t x.2))) d s K:=by
 show qdi _ d s K=_;rfl
@[simp] theorem qyP (rd av:List Nat) (c a b:Operand):qca P rd av (.pick c a b) d s K=qdi (qsp (opd s.t c) (opd s.t a) (opd s.t b)) d s K:=by
 show qdi _ d s K=_;rfl
@[simp] theorem qsX (rd av:List Nat) (x:Operand):qca P rd av (.nilCheck x) d s K=qdi (qEp (opd s.t x)) d s K:=by
 show qdi _ d s K=_;rfl
@[simp] theorem qwD (rd av:List Nat) (op:BinOp) (xt:Nat) (x y:Operand) (yt:Nat):qca P rd av (.binOp op xt x y yt) d s K=qdi (qpZ P op xt x y (opd s.t x) (opd s.t y)) d s K:=by
 show qdi _ d s K=_;rfl
@[simp] theorem qyO (rd av:List Nat) (op:UnOp) (xt:Nat) (x:Operand):qca P rd av (.unOp op xt x) d s K=qdi (qy9 op (opd s.t x)) d s K:=by
 show qdi _ d s K=_;rfl
@[simp] theorem qtj (rd av:List Nat) (a b:Nat) (x:Operand):qca P rd av (.convert a b x) d s K=qdi (qdS P (qre rd s.h) a b (opd s.t x)) d s K:=by
 show qdi _ d s K=_;rfl
@[simp] theorem qwA (rd av:List Nat) (ty:Nat) (x:Operand) (lo hi:Option Operand):qca P rd av (.slice ty x lo hi none) d s K=qdi (qcr P (qre rd s.h) ty (opd s.t x) (lo.map (opd s.t)) (hi.map (opd s.t))) d s K:=by
 show qdi _ d s K=_;rfl
@[simp] theorem qqO (rd av:List Nat) (ty:Nat) (x:Operand) (f:Nat):qca P rd av (.fieldAddr ty x f) d s K=qdi (qcj P ty f (opd s.t x)) d s K:=by
 show qdi _ d s K=_;rfl
@[simp] theorem qqN (rd av:List Nat) (ty:Nat) (x i:Operand):qca P rd av (.indexAddr ty x i) d s K=qdi (qcz P (qre rd s.h) ty (opd s.t x) (opd s.t i)) d s K:=by
 show qdi _ d s K=_;rfl
@[simp] theorem qwB (rd av:List Nat) (ty:Nat) (x i:Operand):qca P rd av (.index ty x i) d s K=qdi (qhe P ty (opd s.t x) (opd s.t i)) d s K:=by
 show qdi _ d s K=_;rfl
@[simp] theorem qti (rd av:List Nat) (x:Operand) (ix:Nat):qca P rd av (.extract x ix) d s K=qdi (qya (opd s.t x) ix) d s K:=by
 show qdi _ d s K=_;rfl
@[simp] theorem qzM (rd av:List Nat) (x:Operand) (ty:Nat):qca P rd av (.call ⟨.builtin .len,#[x],#[ty]⟩) d s K=qdi (qpX P ty (opd s.t x)) d s K:=by
 show qdi _ d s K=_;rfl
@[simp] theorem qyQ (rd av:List Nat) (x:Operand):qca P rd av (.move x) d s K=K ⟨qcC s.t d (opd s.t x),s.h,s.u⟩:=by
 show qdi (some (True,opd s.t x)) d s K=_;simp[qdi]
@[simp] theorem qu2 (rd av:List Nat) (x:Operand):qca P rd av (.assign x) d s K=K ⟨qcC s.t d (opd s.t x),s.h,s.u⟩:=by
 show qdi (some (True,opd s.t x)) d s K=_;simp[qdi]
@[simp] theorem qwE (rd av:List Nat) (ty:Nat):qca P rd av (.alloc ty) d s K=qbs P (.alloc ty) d s (fun s'=>qhG av s.h s'.h∧K s'):=rfl
@[simp] theorem qzN (rd av:List Nat) (ty:Nat) (x:Operand):qca P rd av (.box ty x) d s K=qbs P (.box ty x) d s (fun s'=>qhG av s.h s'.h∧K s'):=rfl
@[simp] theorem qqc (rd av:List Nat) (ty len:Nat) (parts:Array (Nat×Operand)):qca P rd av (.buildSlice ty len parts) d s K=qbs P (.buildSlice ty len parts) d s (fun s'=>qhG av s.h s'.h∧K s'):=rfl
@[simp] theorem qqM (rd av:List Nat) (ty:Nat) (x y:Operand):qca P rd av (.makeSlice ty x y) d s K=qbs P (.makeSlice ty x y) d s (fun s'=>qhG av s.h s'.h∧K s'):=rfl
@[simp] theorem qwz (rd av:List Nat) (ty:Nat) (x y:Operand):qca P rd av (.store ty x y) d s K=qbs P (.store ty x y) d s (fun s'=>qhG av s.h s'.h∧K s'):=rfl
@[simp] theorem qu3 (av:List Nat) (args:Array Operand) (tys:Array Nat):qca P [] av (.call ⟨.builtin .append,args,tys⟩) d s K=qbs P (.call ⟨.builtin .append,args,tys⟩) d s (fun s'=>qhG av s.h s'.h∧K s'):=by
 show((rdG []=true→_)∧_)=_;simp[rdG]
def qCL (rd:List Nat) (x y:AV):Prop:=(match x with | .sl id _ _=>(rd.drop 1).contains id=true | _=>False)∧(match y with | .lst _ _=>True | _=>False)
@[simp] theorem qEi (rd:List Nat) (id e len sz:Nat) (els:List (List AV)):qCL rd (.sl id e len) (.lst sz els)=((rd.drop 1).contains id=true):=by simp[qCL]
@[simp] theorem qtk (rd av:List Nat) (x y:Operand) (tys:Array Nat):qca P (0::rd) av (.call ⟨.builtin .append,#[x,y],tys⟩) d s K=(qCL (0::rd) (opd s.t x) (opd s.t y)∧qbs P (.call ⟨.builtin .append,#[x,y],tys⟩) d s (fun s'=>qhG av s.h s'.h∧K s')):=by
 have h:gOk (0::rd) (.call ⟨.builtin .append,#[x,y],tys⟩) s.t=qCL (0::rd) (opd s.t x) (opd s.t y):=rfl;show((rdG (0::rd)=true→gOk (0::rd) (.call ⟨.builtin .append,#[x,y],tys⟩) s.t)∧_)=_;rw[h];simp only[rdG,true_implies]
@[simp] theorem qyS (rd av:List Nat) (args:Array Operand) (tys:Array Nat):qca P rd av (.call ⟨.builtin .copy,args,tys⟩) d s K=qbs P (.call ⟨.builtin .copy,args,tys⟩) d s (fun s'=>qhG av s.h s'.h∧K s'):=rfl
@[simp] theorem qyT (rd av:List Nat) (x:Operand) (args:Array Operand) (tys:Array Nat):qca P rd av (.call ⟨.value x,args,tys⟩) d s K=qbs P (.call ⟨.value x,args,tys⟩) d s (fun s'=>qhG av s.h s'.h∧K s'):=rfl
def qB6 (op:BinOp) (k:IntKind) (x y:Int):Int :=
 match qka op k x y with
 | some n=>n
 | none=>0
@[simp] theorem qzf (k:IntKind) (x y:Int):qka .xor k x y=some (qB6 .xor k x y):=rfl
@[simp] theorem qzg (k:IntKind) (x y:Int):qka .and k x y=some (qB6 .and k x y):=rfl
@[simp] theorem qB5 (k:IntKind) (x y:Int):qka .or k x y=some (qB6 .or k x y):=rfl
attribute [simp] ren qb6 rho qou
theorem qlB (N:S→Prop) (Q:Exit→S→Prop):qfv N Q .normal s=N s:=rfl
theorem qpr (N:S→Prop) (Q:Exit→S→Prop) (i:Nat):qfv N Q (.exit i) s=Q (.exit i) s:=rfl
theorem qqG (N:S→Prop) (Q:Exit→S→Prop):qfv N Q .ret s=Q .ret s:=rfl
theorem qln (i:Nat) (Q:Exit→S→Prop):qfK i Q .normal s=Q .normal s:=rfl
theorem qp3 (i:Nat) (Q:Exit→S→Prop):qfK i Q .ret s=Q .ret s:=rfl
theorem qnN (i j:Nat) (Q:Exit→S→Prop):qfK i Q (.exit j) s=if j=i then Q .normal s else Q (.exit j) s:=rfl
attribute [simp] qlB qpr qqG qln qp3 qnN
end
end Go.Av
end
