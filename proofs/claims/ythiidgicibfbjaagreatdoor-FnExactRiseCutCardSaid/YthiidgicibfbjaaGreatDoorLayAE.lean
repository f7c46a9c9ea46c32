/- Lemmas for the proof, no statement of the seat; no conditions. -/
import Derived.Test.YthiidgicibfbjaaGreatDoorLayAD
set_option linter.unusedSimpArgs false
set_option linter.unusedVariables false
set_option linter.unnecessarySimpa false
set_option maxRecDepth 100000
section
namespace Go.Av
open Go.RowKit
def isV:Op→Bool
 | .move _ | .assign _ | .pick _ _ _ | .build _ _ | .load _ _ | .nilCheck _ | .binOp _ _ _ _ _ | .unOp _ _ _ | .convert _ _ _ | .makeFunc _ _ _ | .slice _ _ _ _ _ | .fieldAddr _ _ _ | .field _ _ _
 | .indexAddr _ _ _ | .index _ _ _ | .extract _ _=>true
 | .call ⟨.builtin .len,_,_⟩=>true
 | _=>false
def isA:Op→Bool
 | .alloc _ | .box _ _ | .buildSlice _ _ _ | .makeSlice _ _ _=>true
 | _=>false
def isF:Op→Bool
 | .call ⟨.value _,_,_⟩=>true
 | _=>false
def isG:Op→Bool
 | .call ⟨.builtin .append,_,_⟩=>true
 | _=>false
def gOk (rd:List Nat) (op:Op) (t:Tm):Prop :=
 match op with
 | .call ⟨.builtin .append,args,_⟩=>match args.toList with
  | [x,y]=>(match opd t x with | .sl id _ _=>(rd.drop 1).contains id=true | _=>False)∧(match opd t y with | .lst _ _=>True | _=>False)
  | _=>False
 | _=>True
def rdG (rd:List Nat):Bool:=match rd with
 | 0::_=>true
 | _=>false
def qsh (rd:List Nat) (op:Op):Bool:=isG op && rdG rd
def qqw (rd:List Nat) (h:Hp):Hp:=fun id=>if rd.contains id then h id else none
def qgq:List Nat→Hp→Hp→Prop
 | [],_,_=>True
 | id::r,h,h'=>h' id=h id∧qgq r h h'
def aOk (P:Program) (a:Oper) (s:S):Prop:=(match opS P a s with | some (q,_)=>q | none=>False)∧(match a.dst with | some d=>s.h d=none | none=>False)
def qBI (P:Program):List Oper→S→Prop
 | [],_=>True
 | a::r,s=>aOk P a s∧qBI P r s
theorem qmk {P:Program} {s:S}:∀ {l:List Oper},qBI P l s→∀ a∈l,aOk P a s
 | [],_,a,ha=>by simp at ha
 | b::r,h,a,ha=>by
  simp only[qFO]at ha;rcases ha with rfl | ha
  ·exact h.1
  ·exact qmk h.2 a ha
theorem avOk_spec {h h':Hp}:∀ {av:List Nat},qgq av h h'↔∀ id∈av,h' id=h id
 | []=>by simp[qgq]
 | id::r=>by simp[qgq,avOk_spec (av:=r)]
structure Itm where
 k:Nat
 rd:List Nat
 av:List Nat
 fr:List Nat
 B:List Nat
deriving DecidableEq,Inhabited
def qAl (ops:Array Oper) (fr:List Nat):List Oper:=fr.filterMap fun i=>ops[i]?
def qd0 (P:Program) (n:Nat) (ops:Array Oper) (it:Itm) (o:Oper) (s:S) (K:S→Prop):Prop :=
 if isV o.op=true then
  match qa8 P s.t (qqw it.rd s.h) o with
  | some (p,v)=>p∧(match o.dst with | some d=>d<n | none=>True)∧K ⟨qcw s.t o.dst v,s.h,s.u⟩
  | none=>False
 else match o.op with
  | .call ⟨.value x,args,_⟩=>qi7 P n (opd s.t x) (args.toList.map (opd s.t)) o.dst s (fun s'=>qgq it.av s.h s'.h∧K s')
  | _=>(qsh it.rd o.op=true→gOk it.rd o.op s.t)∧qhG n o.dst (opS P o s) (fun s'=>qgq it.av s.h s'.h∧K s')
def qfH (ops:Array Oper) (o:Oper) (t:Tm):Option Bool :=
 match o.guard with
 | none=>some true
 | some (g,want)=>match (ops[g]?).bind (·.dst)with
  | some d=>match t d with
   | .bool b=>some (b == want)
   | .tup _=>some false
   | _=>none
  | none=>none
def qaC (P:Program) (n:Nat) (ops:Array Oper) (it:Itm) (o:Oper) (s:S) (K:S→Prop):Prop :=
 match qfH ops o s.t with
 | some true=>qd0 P n ops it o s K
 | some false=>(match o.dst with | some d=>d<n | none=>True)∧K ⟨qcw s.t o.dst (.tup []),s.h,s.u⟩
 | none=>False
section
variable {P:Program} {n:Nat} {ops:Array Oper} {s:S} {t t':Tm} {h h':Hp} {K K':S→Prop}
def qdF (ops:Array Oper) (o:Oper) (t t':Tm):Prop:=∀ i∈o.looksAt ops,t' i=t i
theorem qdA {o:Oper} (ha:qdF ops o t t') {x:Operand} (hx:x∈o.op.operands.toList):opd t' x=opd t x:=by
 cases x with
 | tmp i =>
  refine ha i ?_;unfold Oper.looksAt;exact qFT _ (List.mem_filterMap.2 ⟨_,hx,rfl⟩)
 | _=>rfl
theorem qeu {o:Oper} (ha:qdF ops o t t'):qfH ops o t'=qfH ops o t:=by
 unfold qfH;cases hg:o.guard with
 | none=>rfl
 | some gw =>
  obtain⟨g,want⟩:=gw;simp only;cases hd:(ops[g]?).bind (·.dst)with
  | none=>rfl
  | some d =>
   simp only;have:t' d=t d:=ha d (by unfold Oper.looksAt;simp[hg,hd]);rw[this]
theorem qev {o:Oper} (ha:qdF ops o t t'):qa8 P t' h o=qa8 P t h o:=by
 obtain⟨dst,op,ty,pos,after,guard⟩:=o;have hop:∀ x,x∈op.operands.toList→opd t' x=opd t x:=fun x hx=>qdA ha hx;cases op with
 | move x=>simp only[qa8,hop x (by simp[Op.operands])]
 | assign x=>simp only[qa8,hop x (by simp[Op.operands])]
 | pick c a b=>simp only[qa8,hop c (by simp[Op.operands]),hop a (by simp[Op.operands]),hop b (by simp[Op.operands])]
 | build ty parts =>
  simp only[qa8]
  congr 1
  refine qE1 fun x hx=>?_;rw[hop x.2 (by simp only[Op.operands,qER];exact⟨x,hx,rfl⟩)]
 | load ty a=>simp only[qa8,hop a (by simp[Op.operands])]
 | nilCheck x=>simp only[qa8,hop x (by simp[Op.operands])]
 | binOp op xt x y yt=>simp only[qa8,hop x (by simp[Op.operands]),hop y (by simp[Op.operands])]
 | unOp op xt x=>simp only[qa8,hop x (by simp[Op.operands])]
 | convert a b x=>simp only[qa8,hop x (by simp[Op.operands])]
 | makeFunc fn first cap =>
  cases fn with
  | func f =>
   simp only[qa8];have:cap.toList.map (opd t')=cap.toList.map (opd t):=qE1 fun x hx=>hop x (by simp[Op.operands];exact .inr (by simpa using hx));rw[this]
  | _=>rfl
 | slice ty x lo hi mx =>
  have e1:lo.map (opd t')=lo.map (opd t):=by
   cases lo with
   | none=>rfl
   | some y=>simp[hop y (by simp[Op.operands])]
  have e2:hi.map (opd t')=hi.map (opd t):=by
   cases hi with
   | none=>rfl
   | some y=>simp[hop y (by simp[Op.operands])]
  cases mx with
  | none=>simp only[qa8,hop x (by simp[Op.operands]),e1,e2]
  | some m=>simp only[qa8,hop x (by simp[Op.operands]),e1,e2,hop m (by simp[Op.operands])]
 | fieldAddr s x f=>simp only[qa8,hop x (by simp[Op.operands])]
 | field s x f=>simp only[qa8,hop x (by simp[Op.operands])]
 | indexAddr ty x i=>simp only[qa8,hop x (by simp[Op.operands]),hop i (by simp[Op.operands])]
 | index ty x i=>simp only[qa8,hop x (by simp[Op.operands]),hop i (by simp[Op.operands])]
 | extract x ix=>simp only[qa8,hop x (by simp[Op.operands])]
 | call c =>
  obtain⟨callee,args,tys⟩:=c;have hq:∀ x,x∈args.toList→opd t' x=opd t x:=fun x hx=>hop x (by simp[Op.operands,Call.operands];exact .inr (by simpa using hx));cases callee with
  | builtin b =>
   cases b <;> simp only[qa8] <;> (generalize hl:args.toList=l at hq ⊢;generalize tys.toList=m;match l,m,hq with
    | [],_,_=>rfl
    | [x],[],hq=>rfl
    | [x],[_],hq=>first | rfl | simp only[hq x (by simp)]
    | [x],_::_::_,hq=>rfl
    | [x,y],_,hq=>first | rfl | simp only[hq x (by simp),hq y (by simp)]
    | _::_::_::_,_,_=>rfl)
  | _=>rfl
 | _=>rfl
theorem qpi (hm:∀ id o,h id=some o→h' id=some o) {o:Oper} {p:Prop} {v:AV} (he:qa8 P t h o=some (p,v)):qa8 P t h' o=some (p,v):=by
 obtain⟨dst,op,ty,pos,after,guard⟩:=o;cases op with
 | load ty a =>
  simp only[qa8]at he ⊢;generalize opd t a=x at he ⊢;cases x <;> simp only[qfr]at he ⊢ <;> try exact he
  rename_i id e off;cases hid:h id with
  | none=>simp[hid]at he
  | some ob=>rw[hm _ _ hid];rw[hid]at he;exact he
 | convert a b x =>
  simp only[qa8]at he ⊢;generalize opd t x=y at he ⊢;cases y <;> simp only[qdN]at he ⊢ <;> try exact he
  rename_i id e off;cases hid:h id with
  | none=>simp[hid]at he
  | some ob=>rw[hm _ _ hid];rw[hid]at he;exact he
 | slice ty x lo hi mx =>
  cases mx with
  | some m =>
   simp only[qa8]at he ⊢;unfold qfa at he ⊢;split at he
   ·split at he
    ·split at he
     ·generalize opd t x=y at he ⊢;cases y <;> simp only at he ⊢ <;> try exact he
      all_goals
       split at he
       ·rename_i o ho;rw[hm _ _ ho];exact he
       ·cases he
     ·cases he
    ·cases he
   ·cases he
  | none =>
   simp only[qa8]at he ⊢;generalize opd t x=y at he ⊢;cases y <;> simp only[qcn]at he ⊢ <;> try exact he
   ·rename_i id e len;cases hid:h id with
    | none =>
     rw[hid]at he;split at he
     ·split at he
      ·rename_i h2;cases h2
      ·cases he
     ·cases he
    | some ob=>rw[hm _ _ hid];rw[hid]at he;exact he
   ·rename_i id e len cap;cases hid:h id with
    | none =>
     rw[hid]at he;split at he
     ·split at he
      ·rename_i h2;cases h2
      ·cases he
     ·cases he
    | some ob=>rw[hm _ _ hid];rw[hid]at he;exact he
 | indexAddr ty x i =>
  simp only[qa8]at he ⊢;generalize opd t x=y at he ⊢;generalize opd t i=z at he ⊢;cases z <;> simp only[qcu]at he ⊢ <;> try exact he
  cases hty:qaz P ty with
  | none=>simp[hty]at he
  | some ti =>
   simp only[hty]at he ⊢;obtain⟨td,s1,s2,s3⟩:=ti;cases td <;> cases y <;> simp only at he ⊢ <;> try exact he
   ·rename_i id e len;cases hid:h id with
    | none=>simp[hid]at he
    | some ob=>rw[hm _ _ hid];rw[hid]at he;exact he
   ·rename_i id e len cap;cases hid:h id with
    | none=>simp[hid]at he
    | some ob=>rw[hm _ _ hid];rw[hid]at he;exact he
 | makeFunc fn first cap=>cases fn <;> exact he
 | call c =>
  obtain⟨callee,args,tys⟩:=c;cases callee with
  | builtin b=>cases b <;> exact he
  | _=>exact he
 | _=>exact he
def qdW (k:Nat) (v:AV) (r:Option (Prop×S)):Option (Prop×S):=r.map fun r=>(r.1,⟨upd r.2.t k v,r.2.h,r.2.u⟩)
theorem qc6 {d k:Nat} {v x:AV} {sz:Nat} {els:List (List AV)} {u:Us} (hd:d≠k):qbg d ⟨upd t k v,h,u⟩ sz els x=⟨upd (qbg d ⟨t,h,u⟩ sz els x).t k v,(qbg d ⟨t,h,u⟩ sz els x).h,(qbg d ⟨t,h,u⟩ sz els x).u⟩:=by
 simp only[qbg,qcq t v x (qD8 hd)]
theorem ql5 {d k e1 e2:Nat} {v:AV} {u:Us} (hd:d≠k) (a b:AV):qb7 P ⟨upd t k v,h,u⟩ d e1 e2 a b=qdW k v (qb7 P ⟨t,h,u⟩ d e1 e2 a b):=by
 unfold qb7;generalize qaz P e1=T1;generalize qaz P e2=T2;cases T1 with
 | none=>rfl
 | some i1 =>
 cases T2 with
 | none=>obtain⟨td1,_,_,_⟩:=i1;cases td1 <;> rfl
 | some i2 =>
 obtain⟨td1,_,_,_⟩:=i1;obtain⟨td2,_,_,_⟩:=i2;cases td1 <;> try rfl
 rename_i e0;cases td2 <;> try rfl
 simp only;generalize qaz P e0=A;generalize qaW h b=B;cases A with
 | none=>simp[qdW]
 | some ie =>
  cases B with
  | none=>simp[qdW]
  | some r =>
   obtain⟨q,sz,ys⟩:=r;cases a <;> simp only <;> try (simp[qdW];done)
   ·simp[qdW,qc6 (hd)]
   ·split
    ·rename_i ob _;simp[qdW,qcq t v _ (qD8 (hd))]
    ·simp[qdW]
theorem qrL {d k e1 e2:Nat} {v:AV} {u:Us} (hd:d≠k) (a b:AV):qfi P ⟨upd t k v,h,u⟩ d e1 e2 a b=qdW k v (qfi P ⟨t,h,u⟩ d e1 e2 a b):=by
 unfold qfi;generalize ha:a=a';generalize hb:b=b';split
 ·split
  ·unfold qdx;generalize qaz P e1=T1;generalize qaz P e2=T2;split
   ·rename_i id _ _ _ _ _ _ _ _ e _ _ _ _ _ _ _
    dsimp only
    generalize qaz P e=T3;generalize h id=O;cases T3 <;> cases O <;> simp[qdW,qc6 hd]
   ·simp[qdW]
  ·simp[qdW]
 ·rename_i id _ _ _ _;unfold qcH;generalize qaz P e1=T1;generalize qaz P e2=T2;split
  ·rename_i e _ _ _ _ _ _ _
   dsimp only
   generalize qaz P e=T3;generalize h id=O;generalize qaW h b'=B;cases T3 <;> cases B <;> cases O <;> try (simp[qdW];done)
   simp only;split
   ·simp[qdW,qcq t v _ (qD8 hd)]
   ·simp[qdW,qc6 hd]
  ·simp[qdW]
 ·exact ql5 hd _ _
theorem qpl {d:Option Nat} {k e1:Nat} {v:AV} {u:Us} (hd:∀ x,d=some x→x≠k) (a b:AV):qgd P ⟨upd t k v,h,u⟩ d e1 a b=qdW k v (qgd P ⟨t,h,u⟩ d e1 a b):=by
 unfold qgd;generalize qaz P e1=T1;split
 ·rename_i e _ _ _
  dsimp only
  generalize qaz P e=T3;generalize qaW h b=B;generalize qvS a=A;cases T3 <;> cases B <;> cases A <;> try (simp[qdW];done)
  rename_i A;obtain⟨id,e0,len⟩:=A
  dsimp only
  generalize h id=O;cases O
  ·simp[qdW]
  ·cases d with
   | none=>simp[qdW,qcw]
   | some x=>simp[qdW,qcw,qcq t v _ (qD8 (hd x rfl))]
 ·simp[qdW]
theorem qm2 {k e1:Nat} {v:AV} {u:Us} (a:AV):qen P ⟨upd t k v,h,u⟩ e1 a=qdW k v (qen P ⟨t,h,u⟩ e1 a):=by
 unfold qen;generalize qaz P e1=T1;split
 ·rename_i e _ _ _
  dsimp only
  generalize qaz P e=T3;generalize qvS a=A;cases T3 <;> cases A <;> try (simp[qdW];done)
  rename_i A;obtain⟨id,e0,len⟩:=A
  dsimp only
  generalize h id=O;cases O <;> simp[qdW]
 ·simp[qdW]
theorem qwy {o:Oper} {k:Nat} {v:AV} {u:Us} (ha:qdF ops o t (upd t k v)) (hd:o.dst≠some k):opS P o ⟨upd t k v,h,u⟩=qdW k v (opS P o ⟨t,h,u⟩):=by
 have hv:qfw P o ⟨upd t k v,h,u⟩=qdW k v (qfw P o ⟨t,h,u⟩):=by
  unfold qfw;simp only[qev ha];cases qa8 P t h o with
  | none=>rfl
  | some r =>
   obtain⟨p,x⟩:=r;simp only[qdW,qEk];cases hx:o.dst with
   | none=>rfl
   | some d=>simp only[qcw];rw[qcq t v x (by rintro rfl;exact hd hx)]
 have hev:=qev (P:=P) (h:=h) ha;obtain⟨dst,op,ty,pos,after,guard⟩:=o;have hop:∀ x,x∈op.operands.toList→opd (upd t k v) x=opd t x:=fun x hx=>qdA ha hx;have hdd:∀ d,dst=some d→d≠k:=fun d h1 h2=>hd (by simp[h1,h2]);cases op with
 | alloc e =>
  cases dst with
  | none=>rfl
  | some d =>
   simp only[opS,qeo];split <;> simp[qdW,qc6 (hdd d rfl)]
 | box e x =>
  cases dst with
  | none=>rfl
  | some d =>
   simp only[opS,qkB,hop x (by simp[Op.operands])];split <;> simp[qdW,qc6 (hdd d rfl)]
 | buildSlice e len parts =>
  cases dst with
  | none=>rfl
  | some d =>
   have:(parts.toList.map fun x=>(x.1,opd (upd t k v) x.2))=parts.toList.map fun x=>(x.1,opd t x.2):=qE1 fun x hx=>by
    rw[hop x.2 (by simp only[Op.operands,qER];exact⟨x,hx,rfl⟩)]
   simp only[opS,qbu,this];split
   ·split
    ·split <;> simp[qdW,qc6 (hdd d rfl)]
    ·simp[qdW]
   ·simp[qdW]
 | makeSlice e x y =>
  cases dst with
  | none=>rfl
  | some d =>
   simp only[opS,hop x (by simp[Op.operands]),hop y (by simp[Op.operands])];generalize opd t x=a;generalize opd t y=b;cases a <;> cases b <;> simp only[qfq] <;> try (simp[qdW];done)
   split
   ·split <;> simp[qdW,qc6 (hdd d rfl)]
   ·simp[qdW]
 | store e x y =>
  cases dst with
  | some d=>rfl
  | none =>
   simp only[opS,hop x (by simp[Op.operands]),hop y (by simp[Op.operands])];generalize opd t x=a;cases a <;> simp only[qfJ] <;> try (simp[qdW];done)
   split <;> simp[qdW]
 | convert e1 e2 x =>
  cases dst with
  | none=>rfl
  | some d =>
   simp only[opS,hev,hop x (by simp[Op.operands])];split
   ·rename_i p w _;simp[qdW,qcq t v w (qD8 (hdd d rfl))]
   ·generalize opd t x=a;cases a <;> simp only[qfK] <;> try (simp[qdW];done)
    split <;> try (simp[qdW];done)
    split <;> simp[qdW,qc6 (hdd d rfl)]
 | call c =>
  obtain⟨callee,args,tys⟩:=c;have hq:∀ x,x∈args.toList→opd (upd t k v) x=opd t x:=fun x hx=>hop x (by simp[Op.operands,Call.operands];exact .inr (by simpa using hx));cases callee with
  | builtin b =>
   cases b
   case append =>
    cases dst with
    | none=>rfl
    | some d =>
     simp only[opS];generalize hl:args.toList=l at hq ⊢;generalize tys.toList=m
     match l,m,hq with
     | [x,y],[e1,e2],hq =>
      simp only[hq x (by simp),hq y (by simp)];exact qrL (hdd d rfl) _ _
     | [],_,_=>rfl
     | [_],_,_=>rfl
     | _::_::_::_,_,_=>rfl
     | [_,_],[],_=>rfl
     | [_,_],[_],_=>rfl
     | [_,_],_::_::_::_,_=>rfl
   case copy =>
    simp only[opS];generalize hl:args.toList=l at hq ⊢;generalize tys.toList=m
    match l,m,hq with
    | [x,y],[e1,e2],hq =>
     simp only[hq x (by simp),hq y (by simp)];exact qpl hdd _ _
    | [],_,_=>rfl
    | [_],_,_=>rfl
    | _::_::_::_,_,_=>rfl
    | [_,_],[],_=>rfl
    | [_,_],[_],_=>rfl
    | [_,_],_::_::_::_,_=>rfl
   case clear =>
    cases dst with
    | some d=>rfl
    | none =>
     simp only[opS];generalize hl:args.toList=l at hq ⊢;generalize tys.toList=m
     match l,m,hq with
     | [x],[e1],hq =>
      simp only[hq x (by simp)];exact qm2 _
     | [],_,_=>rfl
     | [_],[],_=>rfl
     | [_],_::_::_,_=>rfl
     | _::_::_,_,_=>rfl
   all_goals exact hv
  | _=>exact hv
 | _=>exact hv
theorem qCt {o:Oper} {p:Prop} {s':S} (he:opS P o s=some (p,s')):∃ v,s'.t=qcw s.t o.dst v:=by
 have hv:qfw P o s=some (p,s')→∃ v,s'.t=qcw s.t o.dst v:=fun he=>by
  unfold qfw at he;split at he
  ·injection he with he;injection he with _ e2;subst e2;exact⟨_,rfl⟩
  ·cases he
 unfold opS at he;split at he
 ·rename_i h1;rw[h1];unfold qeo at he;split at he
  ·injection he with he;injection he with _ e2;subst e2;exact⟨_,rfl⟩
  ·cases he
 ·cases he
 ·rename_i h1;rw[h1];unfold qkB at he;split at he
  ·injection he with he;injection he with _ e2;subst e2;exact⟨_,rfl⟩
  ·cases he
 ·cases he
 ·rename_i h1;rw[h1];unfold qbu at he;split at he
  ·split at he
   ·split at he
    ·injection he with he;injection he with _ e2;subst e2;exact⟨_,rfl⟩
    ·cases he
   ·cases he
  ·cases he
 ·cases he
 ·rename_i h1;rw[h1];unfold qfq at he;split at he
  ·split at he
   ·split at he
    ·injection he with he;injection he with _ e2;subst e2;exact⟨_,rfl⟩
    ·cases he
   ·cases he
  ·cases he
 ·cases he
 ·rename_i h1;rw[h1];unfold qfJ at he;split at he
  ·split at he
   ·injection he with he;injection he with _ e2;subst e2;exact⟨.top,rfl⟩
   ·cases he
  ·cases he
 ·cases he
 ·rename_i h1;rw[h1];split at he
  ·injection he with he;injection he with _ e2;subst e2;exact⟨_,rfl⟩
  ·unfold qfK at he;split at he
   ·split at he
    ·split at he
     ·injection he with he;injection he with _ e2;subst e2;exact⟨_,rfl⟩
     ·cases he
    ·cases he
   ·cases he
 ·cases he
 ·rename_i h1;rw[h1];split at he
  ·unfold qfi at he;split at he
   ·split at he
    ·unfold qdx at he;split at he
     ·split at he
      ·injection he with he;injection he with _ e2;subst e2;exact⟨_,rfl⟩
      ·cases he
     ·cases he
    ·cases he
   ·unfold qcH at he;split at he
    ·split at he
     ·split at he
      ·injection he with he;injection he with _ e2;subst e2;exact⟨_,rfl⟩
      ·injection he with he;injection he with _ e2;subst e2;exact⟨_,rfl⟩
     ·cases he
    ·cases he
   ·unfold qb7 at he;split at he
    ·split at he
     ·split at he
      ·injection he with he;injection he with _ e2;subst e2;exact⟨_,rfl⟩
      ·split at he
       ·injection he with he;injection he with _ e2;subst e2;exact⟨_,rfl⟩
       ·cases he
      ·cases he
     ·cases he
    ·cases he
  ·cases he
 ·cases he
 ·split at he
  ·unfold qgd at he;split at he
   ·split at he
    ·split at he
     ·injection he with he;injection he with _ e2;subst e2;exact⟨_,rfl⟩
     ·cases he
    ·cases he
   ·cases he
  ·cases he
 ·rename_i h1;rw[h1];split at he
  ·unfold qen at he;split at he
   ·split at he
    ·split at he
     ·injection he with he;injection he with _ e2;subst e2;exact⟨.top,rfl⟩
     ·cases he
    ·cases he
   ·cases he
  ·cases he
 ·cases he
 ·exact hv he
theorem qgy {t:Tm} {d:Option Nat} {v:AV} {x:Nat} (h:d≠some x):qcw t d v x=t x:=by
 cases d with
 | none=>rfl
 | some k=>exact qau _ _ (by rintro rfl;exact h rfl)
theorem qo0 {o:Oper} (hA:isA o.op=true) {p:Prop} {s':S} (he:opS P o s=some (p,s')):∃ d sz els v q0,o.dst=some d∧s'=qbg d s sz els v∧(p↔d ∉ s.u∧q0) ∧
  ∀ s2:S,qdF ops o s.t s2.t→∃ p2,opS P o s2=some (p2,qbg d s2 sz els v)∧(p2↔d ∉ s2.u∧q0):=by
 obtain⟨dst,op,ty,pos,after,guard⟩:=o;have hop:∀ {s2:S},qdF ops ⟨dst,op,ty,pos,after,guard⟩ s.t s2.t→∀ x,x∈op.operands.toList→opd s2.t x=opd s.t x:=fun ha x hx=>qdA ha hx;cases op <;> simp only[isA,qEl]at hA
 case alloc e =>
  cases dst with
  | none=>cases he
  | some d =>
   simp only[opS,qeo]at he ⊢;cases hT:qaz P e with
   | none=>rw[hT]at he;cases he
   | some i =>
    rw[hT]at he;simp only[qEd,qEe]at he;obtain⟨rfl,rfl⟩:=he;exact⟨d,_,_,_,i.zero.length=i.size∧0<i.size,rfl,rfl,qE5,fun s2 ha=>⟨_,rfl,qE5⟩⟩
 case box e x =>
  cases dst with
  | none=>cases he
  | some d =>
   simp only[opS,qkB]at he ⊢;split at he
   ·rename_i i cs hT hc;simp only[qEd,qEe]at he;obtain⟨rfl,rfl⟩:=he;refine⟨d,_,_,_,cs.length=i.size∧0<i.size,rfl,rfl,qE5,fun s2 ha=>⟨_,?_,qE5⟩⟩;rw[hop ha x (by simp[Op.operands]),hT,hc]
   ·cases he
 case buildSlice e len parts =>
  cases dst with
  | none=>cases he
  | some d =>
   have hpe:∀ s2:S,qdF ops ⟨some d,.buildSlice e len parts,ty,pos,after,guard⟩ s.t s2.t→(parts.toList.map fun x=>(x.1,opd s2.t x.2))=parts.toList.map fun x=>(x.1,opd s.t x.2):=fun s2 ha=>qE1 fun x hx=>by
    rw[hop ha x.2 (by simp only[Op.operands,qER];exact⟨x,hx,rfl⟩)]
   simp only[opS]at he ⊢;unfold qbu at he;split at he
   ·rename_i e0 _ _ _ hT;split at he
    ·rename_i ie hE;split at he
     ·rename_i els hS;simp only[qEd,qEe]at he;obtain⟨rfl,rfl⟩:=he;refine⟨d,_,_,_,_,rfl,rfl,qE5,fun s2 ha=>⟨_,?_,qE5⟩⟩;rw[hpe s2 ha];simp only[qbu,hT,hE,hS]
     ·cases he
    ·cases he
   ·cases he
 case makeSlice e x y =>
  cases dst with
  | none=>cases he
  | some d =>
   simp only[opS]at he ⊢;unfold qfq at he;split at he
   ·rename_i k1 l k2 c hx hy;split at he
    ·rename_i e0 _ _ _ hT;split at he
     ·rename_i ie hE;simp only[qEd,qEe]at he;obtain⟨rfl,rfl⟩:=he;refine⟨d,_,_,_,_,rfl,rfl,qE5,fun s2 ha=>⟨_,?_,qE5⟩⟩;rw[hop ha x (by simp[Op.operands]),hop ha y (by simp[Op.operands]),hx,hy];simp only[qfq,hT,hE]
     ·cases he
    ·cases he
   ·cases he
theorem qfX {d:Option Nat} {r:Option (Prop×S)} (hk:∀ p s',r=some (p,s')→K s'→K' s') (h:qhG n d r K):qhG n d r K':=by
 unfold qhG at *
 split at h
 ·exact⟨h.1,h.2.1,hk _ _ rfl h.2.2⟩
 ·exact h
theorem qg6 {v:AV} {args:List AV} {d:Option Nat} (hk:∀ s',(∃ x,s'.t=qcw s.t d x)→K s'→K' s') (h:qi7 P n v args d s K):qi7 P n v args d s K':=by
 unfold qi7 at *
 split at h
 ·obtain⟨h1,h2,hv,pl,argsC,L,R,h3,h4,h5⟩:=h;refine⟨h1,h2,hv,pl,argsC,L,R,h3,h4,fun r L' hr=>?_⟩;obtain⟨φ,h6,h7⟩:=h5 r L' hr;exact⟨φ,h6,hk _ ⟨_,rfl⟩ h7⟩
 ·exact h
def qzZ (it:Itm) (o:Oper) (s s':S):Prop:=(∀ x,o.dst≠some x→s'.t x=s.t x)∧qgq it.av s.h s'.h
theorem qmh {av:List Nat}:qgq av h h:=avOk_spec.2 fun _ _=>rfl
theorem qoM {it:Itm} {o:Oper} (h:qd0 P n ops it o s K):qd0 P n ops it o s (fun s'=>K s'∧qzZ it o s s'):=by
 unfold qd0 at *
 split at h
 ·rename_i hv;rw[if_pos hv];split at h
  ·exact⟨h.1,h.2.1,h.2.2,fun x hx=>qgy hx,qmh⟩
  ·exact h
 ·rename_i hv;rw[if_neg hv];split at h
  ·exact qg6 (fun s' ⟨x,hx⟩ hk=>⟨hk.1,hk.2,fun y hy=>by rw[hx];exact qgy hy,hk.1⟩) h
  ·refine⟨h.1,qfX (fun p s' he hk=>⟨hk.1,hk.2,fun y hy=>?_,hk.1⟩) h.2⟩;obtain⟨x,hx⟩:=qCt he;rw[hx];exact qgy hy
theorem qmS {it:Itm} {o:Oper} (h:qaC P n ops it o s K):qaC P n ops it o s (fun s'=>K s'∧qzZ it o s s'):=by
 unfold qaC at *
 split at h
 ·exact qoM h
 ·exact⟨h.1,h.2,fun x hx=>qgy hx,qmh⟩
 ·exact h
theorem qoL {it:Itm} {o:Oper} (hk:∀ s,K s→K' s) (h:qd0 P n ops it o s K):qd0 P n ops it o s K':=by
 unfold qd0 at *
 split at h
 ·rename_i hv;rw[if_pos hv];split at h
  ·exact⟨h.1,h.2.1,hk _ h.2.2⟩
  ·exact h
 ·rename_i hv;rw[if_neg hv];split at h
  ·exact qg6 (fun s' _ h=>⟨h.1,hk _ h.2⟩) h
  ·exact⟨h.1,qfX (fun p s' he h=>⟨h.1,hk _ h.2⟩) h.2⟩
theorem qcR {it:Itm} {o:Oper} (hk:∀ s,K s→K' s) (h:qaC P n ops it o s K):qaC P n ops it o s K':=by
 unfold qaC at *
 split at h
 ·exact qoL hk h
 ·exact⟨h.1,hk _ h.2⟩
 ·exact h
theorem qeL {t:Tm} {d:Option Nat} {k:Nat} {v x:AV} (h:d≠some k):qcw (upd t k v) d x=upd (qcw t d x) k v:=by
 cases d with
 | none=>rfl
 | some j=>exact qcq t v x (by rintro rfl;exact h rfl)
theorem qiC {o:Oper} {rd:List Nat} (ha:qdF ops o t t'):gOk rd o.op t'↔gOk rd o.op t:=by
 have hop:∀ y,y∈o.op.operands.toList→opd t' y=opd t y:=fun y hy=>qdA ha hy;unfold gOk;split
 ·rename_i args tys ho;split
  ·rename_i x y hxy;have h1:=hop x (by rw[ho];simp[Op.operands,Call.operands,hxy]);have h2:=hop y (by rw[ho];simp[Op.operands,Call.operands,hxy]);rw[h1,h2]
  ·exact qE5
 ·exact qE5
theorem quF {op:Op} {rd:List Nat} (h:isA op=true):qsh rd op=false:=by
 cases op <;> simp[isA]at h <;> rfl
theorem qp2 {it:Itm} {o:Oper} {k:Nat} {v:AV} {u:Us} (ha:qdF ops o t (upd t k v)) (hd:o.dst≠some k) (hs:qd0 P n ops it o ⟨upd t k v,h,u⟩ K) :
  qd0 P n ops it o ⟨t,h,u⟩ (fun s'=>K ⟨upd s'.t k v,s'.h,s'.u⟩):=by
 unfold qd0 at *
 split at hs
 ·rename_i hv;rw[if_pos hv];simp only[qev ha]at hs;split at hs
  ·rename_i p w he;simp only[he];refine⟨hs.1,hs.2.1,?_⟩;have:=hs.2.2;rw[qeL hd]at this;exact this
  ·cases hs
 ·rename_i hv;rw[if_neg hv];split at hs
  ·rename_i x args tys ho;have hop:∀ y,y∈o.op.operands.toList→opd (upd t k v) y=opd t y:=fun y hy=>qdA ha hy;rw[ho]at hop;have e1:opd (upd t k v) x=opd t x:=hop x (by simp[Op.operands,Call.operands]);have e2:args.toList.map (opd (upd t k v))=args.toList.map (opd t):=qE1 fun y hy=>hop y (by simp[Op.operands,Call.operands];exact .inr (by simpa using hy));simp only[e1,e2]at hs;unfold qi7 at *
   split at hs
   ·rename_i f cap hx;simp only[hx];obtain⟨h1,h2,hv,pl,argsC,L,R,h3,h4,h5⟩:=hs;refine⟨h1,h2,hv,pl,argsC,L,R,⟨h3.view,h3.mt,h3.nod,h3.obs,h3.keys,h3.liv⟩,h4,fun r L' hr=>?_⟩;obtain⟨φ,h6,h7,h8⟩:=h5 r L' hr;refine⟨φ,⟨h6.lone,h6.nod,h6.new,h6.unu,h6.kin,h6.sub⟩,h7,?_⟩;have e3:qaf ⟨upd t k v,h,u⟩ pl φ o.dst r L'=⟨upd (qaf ⟨t,h,u⟩ pl φ o.dst r L').t k v,(qaf ⟨t,h,u⟩ pl φ o.dst r L').h,(qaf ⟨t,h,u⟩ pl φ o.dst r L').u⟩:=by
     simp only[qaf,qeL hd]
    rw[e3]at h8;exact h8
   ·cases hs
  ·refine⟨fun hm=>(qiC ha).1 (hs.1 hm),?_⟩;have hs:=hs.2;rw[qwy ha hd]at hs;unfold qhG qdW at *
   cases he:opS P o ⟨t,h,u⟩with
   | none=>simp[he]at hs
   | some r=>obtain⟨p,s'⟩:=r;simpa [he]using hs
theorem qpc {it:Itm} {o:Oper} {k:Nat} {v:AV} {u:Us} (ha:qdF ops o t (upd t k v)) (hd:o.dst≠some k) (hs:qaC P n ops it o ⟨upd t k v,h,u⟩ K) :
  qaC P n ops it o ⟨t,h,u⟩ (fun s'=>K ⟨upd s'.t k v,s'.h,s'.u⟩):=by
 unfold qaC at *
 simp only[qeu ha]at hs;split at hs
 ·rename_i hf;simp only[hf];exact qp2 ha hd hs
 ·rename_i hf;simp only[hf];refine⟨hs.1,?_⟩;have:=hs.2;rw[qeL hd]at this;exact this
 ·cases hs
theorem qmR {it:Itm} {o:Oper} {k:Option Nat} {v:AV} {u:Us} (ha:∀ d,k=some d→d ∉ o.looksAt ops) (hd:∀ d,k=some d→o.dst≠some d) (hs:qaC P n ops it o ⟨qcw t k v,h,u⟩ K) :
  qaC P n ops it o ⟨t,h,u⟩ (fun s'=>K ⟨qcw s'.t k v,s'.h,s'.u⟩):=by
 cases k with
 | none=>exact hs
 | some k=>exact qpc (fun i hi=>qau _ _ (by rintro rfl;exact ha _ rfl hi)) (hd k rfl) hs
theorem qwd {rd:List Nat} (hh:∀ id∈rd,h' id=h id):qqw rd h'=qqw rd h:=by
 funext id;unfold qqw
 by_cases hc:rd.contains id=true
 ·rw[if_pos hc,if_pos hc];exact hh id (by simpa using hc)
 ·rw[if_neg hc,if_neg hc]
theorem qB1 {ii ij:Itm} {oi oj:Oper} (hv:isV oi.op=true) (hap:oi.apart ops oj=true) (hrd:∀ id∈ii.rd,id∈ij.av) (hs:qaC P n ops ii oi s (fun s1=>qaC P n ops ij oj s1 K)) :
  qaC P n ops ij oj s (fun s2=>qaC P n ops ii oi s2 K):=by
 obtain⟨h1,h2,h3⟩:=Oper.apart_spec hap;have hVY:∃ w,(match oi.dst with | some d=>d<n | none=>True)∧qaC P n ops ij oj ⟨qcw s.t oi.dst w,s.h,s.u⟩ K ∧
   ∀ s2:S,qdF ops oi s.t s2.t→(∀ id∈ii.rd,s2.h id=s.h id)→K ⟨qcw s2.t oi.dst w,s2.h,s2.u⟩→qaC P n ops ii oi s2 K:=by
  unfold qaC at hs;split at hs
  ·rename_i hf;unfold qd0 at hs;rw[if_pos hv]at hs;split at hs
   ·rename_i p w he;refine⟨w,hs.2.1,hs.2.2,fun s2 ha hh hk=>?_⟩;unfold qaC;rw[qeu ha,hf];unfold qd0;simp only[if_pos hv,qev ha,qwd hh,he];exact⟨hs.1,hs.2.1,hk⟩
   ·cases hs
  ·rename_i hf;refine⟨.tup [],hs.1,hs.2,fun s2 ha hh hk=>?_⟩;unfold qaC;rw[qeu ha,hf];exact⟨hs.1,hk⟩
  ·cases hs
 obtain⟨w,hn,hj,hback⟩:=hVY;have:=qmS (qmR (t:=s.t) (h:=s.h) (u:=s.u) (fun d hd=>h1 d hd) (fun d hd=>h2 d hd) hj);refine qcR (fun s2 hk=>?_) this;obtain⟨hk,hkt,hkh⟩:=hk;refine hback s2 (fun i hi=>hkt i fun hd=>h3 i hd hi) (fun id hid=>avOk_spec.1 hkh id (hrd id hid)) hk
theorem qpI (hm:∀ id o,h id=some o→h' id=some o) {ids:List Nat} {sz:Nat} {els:List (List AV)} {x:AV} (hv:qbW h ids sz els x):qbW h' ids sz els x:=by
 cases x <;> simp only[qbW]at hv ⊢ <;> try exact hv
 ·rename_i id e len;cases hid:h id with
  | none=>simp[hid]at hv
  | some o=>rw[hm _ _ hid];rw[hid]at hv;exact hv
 ·rename_i id e off esz m;cases hid:h id with
  | none=>simp[hid]at hv
  | some o=>rw[hm _ _ hid];rw[hid]at hv;exact hv
 ·rename_i id e len cap;cases hid:h id with
  | none=>simp[hid]at hv
  | some o=>rw[hm _ _ hid];rw[hid]at hv;exact hv
mutual
theorem qs0 (hm:∀ id o,h id=some o→h' id=some o) {ids:List Nat} {ρ:Nat→Option Plc}:∀ {a x:AV},mtA h ids ρ a x→mtA h' ids ρ a x
 | .lst sz els,x,hv=>by simp only[mtA]at hv ⊢;exact qpI hm hv
 | .agg cs,x,hv=>by
  cases x <;> simp only[mtA]at hv ⊢;exact qej hm hv
 | .tup cs,x,hv=>by
  cases x <;> simp only[mtA]at hv ⊢;exact qej hm hv
 | .fn f cs,x,hv=>by
  cases x <;> simp only[mtA]at hv ⊢;exact⟨hv.1,qej hm hv.2⟩
 | .top,x,hv=>by simp only[mtA]at hv ⊢
 | .ptr _ _ _,x,hv=>by simp only[mtA]at hv ⊢;exact hv
 | .sl _ _ _,x,hv=>by simp only[mtA]at hv ⊢;exact hv
 | .slc _ _ _ _,x,hv=>by simp only[mtA]at hv ⊢;exact hv
 | .bsl _ _ _ _ _,x,hv=>by simp only[mtA]at hv ⊢;exact hv
 | .int _ _,x,hv=>by simp only[mtA]at hv ⊢;exact hv
 | .bool _,x,hv=>by simp only[mtA]at hv ⊢;exact hv
 | .str _,x,hv=>by simp only[mtA]at hv ⊢;exact hv
 | .nilp,x,hv=>by simp only[mtA]at hv ⊢;exact hv
 | .nils,x,hv=>by simp only[mtA]at hv ⊢;exact hv
 | .nili,x,hv=>by simp only[mtA]at hv ⊢;exact hv
 | .ifc,x,hv=>by simp only[mtA]at hv ⊢;exact hv
 | .anyb,x,hv=>by simp only[mtA]at hv ⊢;exact hv
 | .elm _,x,hv=>by simp only[mtA]at hv ⊢;exact hv
theorem qej (hm:∀ id o,h id=some o→h' id=some o) {ids:List Nat} {ρ:Nat→Option Plc}:∀ {as xs:List AV},mtL h ids ρ as xs→mtL h' ids ρ as xs
 | [],xs,hv=>by simp only[mtL]at hv ⊢;exact hv
 | a::r,[],hv=>by simp only[mtL]at hv
 | a::r,x::xs,hv=>by simp only[mtL]at hv ⊢;exact⟨qs0 hm hv.1,qej hm hv.2⟩
end
theorem qjz (hm:∀ id o,h id=some o→h' id=some o) {hv hv':Hp} (hmv:∀ id o,hv id=some o→hv' id=some o) {ids:List Nat} {ρ:Nat→Option Plc} {o:Ob} {p:Plc} (hi:qo5 hv h ids ρ o p):qo5 hv' h' ids ρ o p:=by
 cases p with
 | whole id =>
  obtain⟨O,h1,h2,h3⟩:=hi;refine⟨O,hm _ _ h1,h2,?_⟩;rcases h3 with h3 | ⟨cs,ds,e1,e2,h3⟩
  ·exact .inl h3
  ·exact .inr ⟨cs,ds,e1,e2,qej hmv h3⟩
 | sub id e0 o0 m =>
  obtain⟨O,cs,h1,h2,h3,h4,h5,h6,h7⟩:=hi;exact⟨O,cs,hm _ _ h1,h2,h3,h4,h5,h6,qej hmv h7⟩
theorem qj8 {d:Nat} {ob:Ob}:∀ {pl:List (Nat×Plc)},(∀ x∈pl,x.2.id≠d)→qmo (upd h d (some ob)) pl=upd (qmo h pl) d (some ob)
 | [],_=>rfl
 | (c,.whole id)::r,hd=>by
  simp only[qmo];rw[qj8 fun x hx=>hd x (qFK _ hx)];have:id≠d:=hd (c,.whole id) (by simp);exact qcq _ _ _ (qD8 this)
 | (c,.sub _ _ _ _)::r,hd=>by
  simp only[qmo];exact qj8 fun x hx=>hd x (qFK _ hx)
theorem qnR {h0:Hp} {d:Nat} {ob:Ob} {ρ:Nat→Option Plc} (hρ:∀ c p,ρ c=some p→p.id≠d):∀ {L:List (Nat×Ob)} {h:Hp},qnS (upd h0 d (some ob)) ρ (upd h d (some ob)) L=upd (qnS h0 ρ h L) d (some ob)
 | [],_=>rfl
 | (c,o)::r,h=>by
  simp only[qnS,qqJ];rw[qnR hρ];cases hc:ρ c with
  | none=>rfl
  | some p =>
   have hp:=hρ c p hc;cases p with
   | whole id=>exact qcq _ _ _ (qD8 hp)
   | sub id e0 o0 m =>
    simp only;have:(upd h0 d (some ob)) id=h0 id:=qau _ _ hp;rw[this];cases h0 id with
    | none=>rfl
    | some O=>exact qcq _ _ _ (qD8 hp)
theorem qwk {pl:List (Nat×Plc)} {φ:List (Nat×Nat)} {c:Nat} {p:Plc} (hp:qgo pl φ c=some p):p.id∈pl.map (·.2.id)∨p.id∈φ.map (·.2):=by
 unfold qgo at hp;split at hp
 ·rename_i q hq;injection hp with hp;subst hp;exact .inl (qER.2 ⟨_,qbD hq,rfl⟩)
 ·split at hp
  ·rename_i id hq;injection hp with hp;subst hp;exact .inr (qER.2 ⟨_,qei hq,rfl⟩)
  ·cases hp
theorem qs4 {op:Op} (h:isA op=true):isV op=false∧(∀ c,op≠.call c):=by
 cases op <;> simp[isA]at h <;> simp[isV]
theorem S.eqs {a b:S} (h1:a.t=b.t) (h2:a.h=b.h) (h3:a.u=b.u):a=b:=by
 cases a;cases b;simp only at h1 h2 h3;subst h1;subst h2;subst h3;rfl
theorem qB3 {ii ij:Itm} {oi oj:Oper} (hF:isF oi.op=true) (hA:isA oj.op=true) (hg:oj.guard=none) (hap:oi.apart ops oj=true) (hok:aOk P oj s) (hdn:∀ d,oj.dst=some d→d<n) (hav:∀ d,oj.dst=some d→d ∉ ij.av)
  (hs:qaC P n ops ii oi s (fun s1=>qaC P n ops ij oj s1 K)):qaC P n ops ij oj s (fun s2=>qaC P n ops ii oi s2 K):=by
 obtain⟨h1,h2,h3⟩:=Oper.apart_spec hap;obtain⟨hok1,hok2⟩:=hok;cases he:opS P oj s with
 | none=>rw[he]at hok1;exact hok1.elim
 | some r =>
 obtain⟨q,s'⟩:=r;rw[he]at hok1;simp only at hok1;obtain⟨d,sz,els,v,q0,hd,rfl,hq,hall⟩:=qo0 hA he;rw[hd]at hok2;simp only at hok2;have hfj:∀ t,qfH ops oj t=some true:=fun t=>by unfold qfH;rw[hg]
 have hnv:=qs4 hA;have mk:∀ (s2:S) (K2:S→Prop),qaC P n ops ij oj s2 K2↔qhG n oj.dst (opS P oj s2) (fun s'=>qgq ij.av s2.h s'.h∧K2 s'):=fun s2 K2=>by
  unfold qaC;rw[hfj];unfold qd0;rw[if_neg (by rw[hnv.1];simp)];simp only;split
  ·rename_i x args tys ho;exact absurd ho (hnv.2 _)
  ·rw[quF hA];exact⟨fun h=>h.2,fun h=>⟨fun h=>(by cases h),h⟩⟩
 have mk2:∀ (s2:S) (K2:S→Prop),qdF ops oj s.t s2.t→qaC P n ops ij oj s2 K2→d ∉ s2.u∧K2 (qbg d s2 sz els v):=fun s2 K2 ha hk=>by
  obtain⟨p2,e2,hp2⟩:=hall s2 ha;rw[mk,e2]at hk;unfold qhG at hk;exact⟨(hp2.1 hk.1).1,hk.2.2.2⟩
 have havs:∀ (hh:Hp) (ob:Ob),qgq ij.av hh (upd hh d (some ob)):=fun hh ob=>avOk_spec.2 fun id hid=>qau _ _ (by rintro rfl;exact hav _ hd hid);rw[mk,he];unfold qhG;refine⟨hok1,by rw[hd];exact hdn d hd,havs _ _,?_⟩;have hagi:qdF ops oi s.t (upd s.t d v):=fun i hi=>qau _ _ (by rintro rfl;exact h3 _ hd hi);have hdi:oi.dst≠some d:=fun e=>h2 d e hd;unfold qaC at hs ⊢;have hfi:qfH ops oi (qbg d s sz els v).t=qfH ops oi s.t:=qeu hagi;rw[hfi];split at hs
 ·rename_i hf;show _;unfold qd0 at hs ⊢;have hvi:¬ isV oi.op=true:=by
   cases hoi:oi.op <;> rw[hoi]at hF <;> simp[isF]at hF ⊢ <;> try (simp[isV];done)
   rename_i c;obtain⟨callee,args,tys⟩:=c;cases callee <;> simp[isF]at hF;simp[isV]
  rw[if_neg hvi]at hs ⊢;split at hs
  ·rename_i x args tys ho;show _;have hop:∀ y,y∈oi.op.operands.toList→opd (upd s.t d v) y=opd s.t y:=fun y hy=>qdA hagi hy;rw[ho]at hop;have e1:opd (qbg d s sz els v).t x=opd s.t x:=hop x (by simp[Op.operands,Call.operands]);have e2:args.toList.map (opd (qbg d s sz els v).t)=args.toList.map (opd s.t):=qE1 fun y hy=>hop y (by simp[Op.operands,Call.operands];exact .inr (by simpa using hy));rw[e1,e2];unfold qi7 at hs ⊢;split at hs
   ·rename_i f cap hx;show _;obtain⟨g1,g2,hv,pl,argsC,L,R,hin,hC,hR⟩:=hs;have hmore:∀ id o,s.h id=some o→(upd s.h d (some ⟨sz,els⟩)) id=some o:=fun id o ho=>by
     rw[qau _ _ (by rintro rfl;rw[hok2]at ho;cases ho)];exact ho
    have hpd:∀ x∈pl,x.2.id≠d:=fun x hx e=>by
     have:=hin.liv x hx;rw[e,hok2]at this;simp at this
    have hin':∃ hv',CallIn (qbg d s sz els v) hv' pl (args.toList.map (opd s.t)++cap) argsC L∧(hv=(fun _=>none)→hv'=fun _=>none):=by
     have hliv:∀ x,x∈pl→((qbg d s sz els v).h x.2.id).isSome=true:=fun x hx=>by
      show((upd s.h d (some ⟨sz,els⟩)) x.2.id).isSome=true;rw[qau _ _ (hpd x hx)];exact hin.liv x hx
     by_cases hnone:hv=fun _=>none
     ·exact⟨hv,⟨.inr hnone,hin.mt,hin.nod,fun x hx=>(hin.obs x hx).imp fun p hp=>⟨hp.1,qjz hmore (fun _ _ h=>h) hp.2⟩,hin.keys,hliv⟩,fun h=>h⟩
     ·have hvs:hv=s.h:=hin.view.resolve_right hnone;subst hvs;exact⟨upd s.h d (some ⟨sz,els⟩),⟨.inl rfl,qej hmore hin.mt,hin.nod,fun x hx=>(hin.obs x hx).imp fun p hp=>⟨hp.1,qjz hmore hmore hp.2⟩,hin.keys,hliv⟩,fun h=>absurd h hnone⟩
    obtain⟨hv',hin',hvn⟩:=hin';refine⟨g1,g2,hv',pl,argsC,L,R,hin',hC,fun r L' hr=>?_⟩;obtain⟨φ,hco,hav1,hj⟩:=hR r L' hr;have hagj:qdF ops oj s.t (qaf s pl φ oi.dst r L').t:=fun i hi=>qgy (fun e=>h1 i e hi);obtain⟨hdu,hK⟩:=mk2 _ _ hagj hj;have hdφ:d ∉ φ.map (·.2):=fun hm=>hdu (.inl hm);have hρd:∀ c p,qgo pl φ c=some p→p.id≠d:=fun c p hp e=>by
     rcases qwk hp with hm | hm
     ·obtain⟨x,hx,hxe⟩:=qER.1 hm;exact hpd x hx (hxe.trans e)
     ·rw[e]at hm;exact hdφ hm
    have hh:(qaf (qbg d s sz els v) pl φ oi.dst r L').h=upd (qaf s pl φ oi.dst r L').h d (some ⟨sz,els⟩):=by
     simp only[qaf,qbg];rw[qj8 hpd,qnR hρd]
    have hst:qaf (qbg d s sz els v) pl φ oi.dst r L'=qbg d (qaf s pl φ oi.dst r L') sz els v:=by
     have ht:(qaf (qbg d s sz els v) pl φ oi.dst r L').t=upd (qaf s pl φ oi.dst r L').t d v:=by
      simp only[qaf,qbg,qeL hdi]
     have hu:(qaf (qbg d s sz els v) pl φ oi.dst r L').u=Us.cons d (qaf s pl φ oi.dst r L').u:=by
      simp only[qaf,qbg,Us.cons_app]
     exact S.eqs ht hh hu
    refine⟨φ,⟨?_,hco.nod,hco.new,fun x hx=>?_,hco.kin,hco.sub⟩,?_,?_⟩
    ·exact hco.lone.imp hvn id
    ·rintro(e | e)
     ·exact hdφ (e ▸ qER.2 ⟨x,hx,rfl⟩)
     ·exact hco.unu x hx e
    ·rw[hh];refine avOk_spec.2 fun id hid=>?_;by_cases e:id=d
     ·subst e;rw[qar];exact(qar _ _ _).symm
     ·rw[qau _ _ e];show _=upd s.h d (some ⟨sz,els⟩) id;rw[qau _ _ e];exact avOk_spec.1 hav1 id hid
    ·rw[hst];exact hK
   ·cases hs
  ·rename_i hne;exfalso;cases hoi:oi.op <;> rw[hoi]at hF <;> simp[isF]at hF;rename_i c;obtain⟨callee,args,tys⟩:=c;cases callee <;> simp[isF]at hF;exact hne _ _ _ hoi
 ·rename_i hf;show _;refine⟨hs.1,?_⟩;have hagj:qdF ops oj s.t (qcw s.t oi.dst (.tup [])):=fun i hi=>qgy (fun e=>h1 i e hi);obtain⟨_,hK⟩:=mk2 _ _ hagj hs.2;have:(⟨qcw (qbg d s sz els v).t oi.dst (.tup []),(qbg d s sz els v).h,(qbg d s sz els v).u⟩:S)=qbg d ⟨qcw s.t oi.dst (.tup []),s.h,s.u⟩ sz els v:=by
   simp only[qbg,qeL hdi]
  rw[this];exact hK
 ·cases hs
end
end Go.Av
namespace Go.Av
abbrev zI(n:Nat):Itm:=⟨n,[],[],[],[]⟩
abbrev zJ(n:Nat)(a b:List Nat):Itm:=⟨n,a,b,[],[]⟩
end Go.Av
end
section
namespace Go.Av
open Go.RowKit
section
variable {P:Program} {n:Nat} {ops:Array Oper} {s:S} {K K':S→Prop}
theorem mkN {it:Itm} {o:Oper} (hA:isA o.op=true) (hg:o.guard=none):qaC P n ops it o s K↔qhG n o.dst (opS P o s) (fun s'=>qgq it.av s.h s'.h∧K s'):=by
 have hf:qfH ops o s.t=some true:=by unfold qfH;rw[hg]
 have hnv:=qs4 hA;unfold qaC;rw[hf];unfold qd0;rw[if_neg (by rw[hnv.1];simp)];simp only;split
 ·rename_i x args tys ho;exact absurd ho (hnv.2 _)
 ·rw[quF hA];exact⟨fun h=>h.2,fun h=>⟨fun h=>(by cases h),h⟩⟩
theorem qB4 {ii ij:Itm} {oi oj:Oper} (hA1:isA oi.op=true) (hg1:oi.guard=none) (hA:isA oj.op=true) (hg:oj.guard=none) (hap:oi.apart ops oj=true) (hav1:∀ d,oi.dst=some d→d ∉ ii.av) (hav:∀ d,oj.dst=some d→d ∉ ij.av)
  (hs:qaC P n ops ii oi s (fun s1=>qaC P n ops ij oj s1 K)):qaC P n ops ij oj s (fun s2=>qaC P n ops ii oi s2 K):=by
 obtain⟨h1,h2,h3⟩:=Oper.apart_spec hap;rw[mkN hA1 hg1]at hs;unfold qhG at hs;split at hs
 ·rename_i p1 s1 he1;obtain⟨hp1,hd1,_,hj⟩:=hs;obtain⟨d1,sz1,els1,v1,q1,hdd1,rfl,hq1,hall1⟩:=qo0 (ops:=ops) hA1 he1;rw[mkN hA hg]at hj;unfold qhG at hj;split at hj
  ·rename_i p2 s2 he2;obtain⟨hp2,hd2,_,hK⟩:=hj;obtain⟨d2,sz2,els2,v2,q2,hdd2,rfl,hq2,hall2⟩:=qo0 (ops:=ops) hA he2;have hne:d1≠d2:=fun e=>h2 d1 hdd1 (by rw[hdd2,e]);have ha2:qdF ops oj (qbg d1 s sz1 els1 v1).t s.t:=fun i hi=>(qau _ _ (by rintro rfl;exact h1 _ hdd1 hi)).symm;obtain⟨p2',e2',hq2'⟩:=hall2 s ha2;have hq2v:=hq2.1 hp2;have hd2u:d2 ∉ s.u:=fun h=>hq2v.1 (.inr h);rw[mkN hA hg,e2'];unfold qhG;refine⟨hq2'.2 ⟨hd2u,hq2v.2⟩,hd2,avOk_spec.2 fun id hid=>qau _ _ (by rintro rfl;exact hav _ hdd2 hid),?_⟩;have ha1:qdF ops oi s.t (qbg d2 s sz2 els2 v2).t:=fun i hi=>qau _ _ (by rintro rfl;exact h3 _ hdd2 hi);obtain⟨p1',e1',hq1'⟩:=hall1 _ ha1;rw[mkN hA1 hg1,e1'];unfold qhG;have hd1u:d1 ∉ (qbg d2 s sz2 els2 v2).u:=fun h=>h.elim (fun e=>hne e) (hq1.1 hp1).1;refine⟨hq1'.2 ⟨hd1u,(hq1.1 hp1).2⟩,hd1,avOk_spec.2 fun id hid=>qau _ _ (by rintro rfl;exact hav1 _ hdd1 hid),?_⟩;have:qbg d1 (qbg d2 s sz2 els2 v2) sz1 els1 v1=qbg d2 (qbg d1 s sz1 els1 v1) sz2 els2 v2:=by
    simp only[qbg,qcq _ _ _ hne,Us.cons_cons (d:=d1)]
   rw[this];exact hK
  ·cases hj
 ·cases hs
def isN (rd:List Nat) (op:Op):Bool:=isA op || qsh rd op
def rmC (c:List Nat) (h:Hp):Hp:=fun i=>if c.contains i then none else h i
def nw (d:Nat) (ob:Ob) (v:AV) (c:List Nat) (s:S):S:=⟨upd s.t d v,upd (rmC c s.h) d (some ob),Us.cons d s.u⟩
theorem qqD (h:Hp):rmC [] h=h:=by funext i;simp[rmC]
theorem qqC (id:Nat) (h:Hp):rmC [id] h=upd h id none:=by
 funext i
 unfold rmC upd;by_cases e:i=id <;> simp[e]
theorem qzC {o:Oper} {rd:List Nat} (hN:isN rd o.op=true) (hg:qsh rd o.op=true→gOk rd o.op s.t) {p:Prop} {s':S} (he:opS P o s=some (p,s')):∃ (d:Nat) (ob:Ob) (v:AV) (q0:Prop) (c:List Nat),o.dst=some d ∧
  (∀ id∈c,id∈rd.drop 1∧(s.h id).isSome=true)∧s'=nw d ob v c s∧(p↔d ∉ s.u∧q0) ∧
  ∀ s2:S,qdF ops o s.t s2.t→(∀ id∈c,s2.h id=s.h id)→∃ p2,opS P o s2=some (p2,nw d ob v c s2)∧(p2↔d ∉ s2.u∧q0):=by
 unfold isN at hN;simp only[qFW]at hN;rcases hN with hA | hG
 ·obtain⟨d,sz,els,v,q0,hd,rfl,hq,hall⟩:=qo0 (ops:=ops) hA he;refine⟨d,⟨sz,els⟩,v,q0,[],hd,by simp,by simp only[nw,qqD];rfl,hq,fun s2 ha _=>?_⟩;obtain⟨p2,e2,h2⟩:=hall s2 ha;exact⟨p2,by simp only[nw,qqD];exact e2,h2⟩
 ·have hgk:=hg hG;obtain⟨dst,op,ty,pos,after,guard⟩:=o;have hop:∀ {s2:S},qdF ops ⟨dst,op,ty,pos,after,guard⟩ s.t s2.t→∀ x,x∈op.operands.toList→opd s2.t x=opd s.t x:=fun ha x hx=>qdA ha hx;simp only at hgk hG he ⊢;unfold gOk at hgk;split at hgk
  ·rename_i args tys;split at hgk
   ·rename_i x y hxy;obtain⟨g1,g2⟩:=hgk;have hop2:∀ {s2:S},qdF ops ⟨dst,.call ⟨.builtin .append,args,tys⟩,ty,pos,after,guard⟩ s.t s2.t→opd s2.t x=opd s.t x∧opd s2.t y=opd s.t y:=fun ha=>⟨hop ha x (by simp[Op.operands,Call.operands,hxy]),hop ha y (by simp[Op.operands,Call.operands,hxy])⟩;cases dst with
    | none=>simp only[opS]at he;cases he
    | some d =>
     simp only[opS,hxy]at he ⊢;split at he
     ·rename_i a b t1 t2 hab htt;injection hab with hab1 hab2;injection hab2 with hab2 _;subst hab1;subst hab2;cases hx:opd s.t x with
      | sl id e0 len =>
       rw[hx]at g1 he;simp only at g1;cases hy:opd s.t y with
       | lst sz els =>
        rw[hy]at he;have hev:∀ (s2:S),qfi P s2 d t1 t2 (.sl id e0 len) (.lst sz els)=qb7 P s2 d t1 t2 (.sl id e0 len) (.lst sz els):=fun _=>rfl;rw[hev]at he;unfold qb7 at he;split at he
        ·rename_i e _ _ _ _ _ _ _ hT1 hT2;split at he
         ·rename_i ie q sz2 ys hE hS;simp only at he;split at he
          ·rename_i o ho;simp only[qEd,qEe]at he;obtain⟨rfl,rfl⟩:=he;refine⟨d,⟨ie.size,(o.els.drop e0).take len++ys⟩,.sl d 0 (len+ys.length),_,[id],rfl,fun i hi=>?_,by simp only[nw,qqC],qE5,fun s2 ha hh=>⟨_,?_,qE5⟩⟩
           ·simp only[qFO,qFX,or_false]at hi;subst hi;exact⟨by simpa using g1,by rw[ho];rfl⟩
           ·obtain⟨ex,ey⟩:=hop2 ha;have hS2:qaW s2.h (.lst sz els)=qaW s.h (.lst sz els):=rfl;simp only[htt,ex,ey,hx,hy,hev];simp only[qb7,hT1,hT2,hE,hS2,hS,hh id (by simp),ho,nw,qqC]
          ·cases he
         ·cases he
        ·cases he
       | _=>rw[hy]at g2;exact g2.elim
      | _=>rw[hx]at g1;exact g1.elim
     ·cases he
   ·exact hgk.elim
  ·rename_i hne;exfalso;have:isG op=false:=by
    unfold isG;split
    ·exact(hne _ _ rfl).elim
    ·rfl
   unfold qsh at hG;rw[this]at hG;cases hG
theorem quy {rd:List Nat} {op:Op} (h:isN rd op=true):isV op=false∧∀ x args tys,op≠.call ⟨.value x,args,tys⟩:=by
 unfold isN at h;simp only[qFW]at h;rcases h with h | h
 ·exact⟨(qs4 h).1,fun _ _ _=>(qs4 h).2 _⟩
 ·unfold qsh isG at h;simp only[Bool.and_eq_true]at h;have:=h.1;split at this
  ·exact⟨rfl,fun _ _ _ h=>by cases h⟩
  ·cases this
theorem qBo {it:Itm} {o:Oper} (hN:isN it.rd o.op=true) (hg:o.guard=none):qaC P n ops it o s K↔(qsh it.rd o.op=true→gOk it.rd o.op s.t)∧qhG n o.dst (opS P o s) (fun s'=>qgq it.av s.h s'.h∧K s'):=by
 have hf:qfH ops o s.t=some true:=by unfold qfH;rw[hg]
 have hnv:=quy hN;unfold qaC;rw[hf];unfold qd0;rw[if_neg (by rw[hnv.1];simp)];simp only;split
 ·rename_i x args tys ho;exact absurd ho (hnv.2 _ _ _)
 ·exact qE5
def NN (n:Nat) (it:Itm) (o:Oper):Prop:=isN it.rd o.op=true∧o.guard=none∧(∀ d,o.dst=some d→d<n∧d ∉ it.av)∧∀ id∈it.rd.drop 1,id ∉ it.av
theorem qyF {ii ij:Itm} {oi oj:Oper} (hi:NN n ii oi) (hj:NN n ij oj) (hap:oi.apart ops oj=true) (hdi:∀ d,oi.dst=some d→d ∉ ij.rd.drop 1) (hdj:∀ d,oj.dst=some d→d ∉ ii.rd.drop 1) (hrr:∀ id∈ii.rd.drop 1,id ∉ ij.rd.drop 1)
  (hs:qaC P n ops ii oi s (fun s1=>qaC P n ops ij oj s1 K)):qaC P n ops ij oj s (fun s2=>qaC P n ops ii oi s2 K):=by
 obtain⟨h1,h2,h3⟩:=Oper.apart_spec hap;obtain⟨hN1,hg1,ha1,hr1⟩:=hi;obtain⟨hN2,hg2,ha2,hr2⟩:=hj;rw[qBo hN1 hg1]at hs;obtain⟨hk1,hs⟩:=hs;unfold qhG at hs;split at hs
 ·rename_i p1 s1 he1;obtain⟨hp1,hd1,_,hjj⟩:=hs;obtain⟨d1,ob1,v1,q1,c1,hdd1,hc1,rfl,hq1,hall1⟩:=qzC (ops:=ops) hN1 hk1 he1;rw[qBo hN2 hg2]at hjj;obtain⟨hk2,hjj⟩:=hjj;unfold qhG at hjj;split at hjj
  ·rename_i p2 s2 he2;obtain⟨hp2,hd2,_,hK⟩:=hjj;obtain⟨d2,ob2,v2,q2,c2,hdd2,hc2,rfl,hq2,hall2⟩:=qzC (ops:=ops) hN2 hk2 he2;have hne:d1≠d2:=fun e=>h2 d1 hdd1 (by rw[hdd2,e]);have n1:∀ id∈c2,id≠d1:=fun id hid=>by rintro rfl;exact hdi _ hdd1 (hc2 id hid).1
   have n2:∀ id∈c1,id≠d2:=fun id hid=>by rintro rfl;exact hdj _ hdd2 (hc1 id hid).1
   have n3:∀ id∈c1,id ∉ c2:=fun id hid h=>hrr id (hc1 id hid).1 (hc2 id h).1;have hh2:∀ id∈c2,s.h id=(nw d1 ob1 v1 c1 s).h id:=fun id hid=>by
    show _=upd (rmC c1 s.h) d1 (some ob1) id;rw[qau _ _ (n1 id hid)];unfold rmC;rw[if_neg (by simpa using fun h=>n3 id h hid)]
   have agr2:qdF ops oj (nw d1 ob1 v1 c1 s).t s.t:=fun i hi=>(qau _ _ (by rintro rfl;exact h1 _ hdd1 hi)).symm;obtain⟨p2',e2',hq2'⟩:=hall2 s agr2 hh2;have hq2v:=hq2.1 hp2;have hd2u:d2 ∉ s.u:=fun h=>hq2v.1 (.inr h);rw[qBo hN2 hg2,e2'];refine⟨fun hm=>(qiC (ops:=ops) agr2).2 (hk2 hm),?_⟩;unfold qhG;have av2:qgq ij.av s.h (nw d2 ob2 v2 c2 s).h:=avOk_spec.2 fun id hid=>by
    show upd (rmC c2 s.h) d2 (some ob2) id=_;rw[qau _ _ (by rintro rfl;exact(ha2 _ hdd2).2 hid)];unfold rmC;rw[if_neg (by simpa using fun h=>hr2 id (hc2 id h).1 hid)]
   refine⟨hq2'.2 ⟨hd2u,hq2v.2⟩,hd2,av2,?_⟩;have agr1:qdF ops oi s.t (nw d2 ob2 v2 c2 s).t:=fun i hi=>qau _ _ (by rintro rfl;exact h3 _ hdd2 hi);have hh1:∀ id∈c1,(nw d2 ob2 v2 c2 s).h id=s.h id:=fun id hid=>by
    show upd (rmC c2 s.h) d2 (some ob2) id=_;rw[qau _ _ (n2 id hid)];unfold rmC;rw[if_neg (by simpa using n3 id hid)]
   obtain⟨p1',e1',hq1'⟩:=hall1 _ agr1 hh1;rw[qBo hN1 hg1,e1'];refine⟨fun hm=>(qiC (ops:=ops) agr1).2 (hk1 hm),?_⟩;unfold qhG;have hd1u:d1 ∉ (nw d2 ob2 v2 c2 s).u:=fun h=>h.elim (fun e=>hne e) (hq1.1 hp1).1;refine⟨hq1'.2 ⟨hd1u,(hq1.1 hp1).2⟩,hd1,avOk_spec.2 fun id hid=>?_,?_⟩
   ·show upd (rmC c1 _) d1 (some ob1) id=_;rw[qau _ _ (by rintro rfl;exact(ha1 _ hdd1).2 hid)];unfold rmC;rw[if_neg (by simpa using fun h=>hr1 id (hc1 id h).1 hid)]
   ·have:nw d1 ob1 v1 c1 (nw d2 ob2 v2 c2 s)=nw d2 ob2 v2 c2 (nw d1 ob1 v1 c1 s):=by
     refine S.eqs ?_ ?_ ?_
     ·simp only[nw,qcq _ _ _ hne]
     ·funext i
      simp only[nw,upd,rmC];by_cases e1:i=d1
      ·subst e1;have:i≠d2:=hne;have:¬ c2.contains i=true:=by simpa using fun h=>n1 i h rfl
       simp_all
      ·by_cases e2:i=d2
       ·subst e2;have:¬ c1.contains i=true:=by simpa using fun h=>n2 i h rfl
        simp_all
       ·simp only[e1,e2,if_false];by_cases e3:i∈c1 <;> by_cases e4:i∈c2 <;> simp[e3,e4]
     ·simp only[nw,Us.cons_cons (d:=d1)]
    rw[this];exact hK
  ·cases hjj
 ·cases hs
theorem qtX {ij:Itm} {oj:Oper} (hA:isA oj.op=true) (hg:oj.guard=none) (hs:qaC P n ops ij oj s K):
  qaC P n ops ij oj s (fun s2=>K s2∧∀ o',isA o'.op=true→oj.apart ops o'=true→aOk P o' s→aOk P o' s2):=by
 rw[mkN hA hg]at hs ⊢;refine qfX (fun p s2 he hk=>⟨hk.1,hk.2,fun o' hA' hap hok=>?_⟩) hs;obtain⟨h1,h2,h3⟩:=Oper.apart_spec hap;obtain⟨d,sz,els,v,q,hd,rfl,hq,_⟩:=qo0 (ops:=ops) hA he;obtain⟨hok1,hok2⟩:=hok;cases he':opS P o' s with
 | none=>rw[he']at hok1;exact hok1.elim
 | some r =>
  obtain⟨p',s'⟩:=r;rw[he']at hok1;simp only at hok1;obtain⟨d',sz',els',v',q',hd',rfl,hq',hall'⟩:=qo0 (ops:=ops) hA' he';obtain⟨p2,e2,hp2⟩:=hall' (qbg d s sz els v) (fun i hi=>qau _ _ (by rintro rfl;exact h1 _ hd hi));have hne:d'≠d:=fun e=>h2 d hd (by rw[hd',e]);refine⟨?_,?_⟩
  ·rw[e2];exact hp2.2 ⟨fun h=>h.elim hne (hq'.1 hok1).1,(hq'.1 hok1).2⟩
  ·rw[hd']at hok2 ⊢;simp only at hok2 ⊢;show upd s.h d _ d'=none;rw[qau _ _ hne];exact hok2
def opN (P:Program) (n:Nat) (ops:Array Oper) (ann:Nat→Itm) (i:Nat) (K:S→Prop) (s:S):Prop :=
 match ops[i]? with
 | none=>K s
 | some o=>qaC P n ops (ann i) o s K
def qg7 (P:Program) (n:Nat) (ops:Array Oper) (ann:Nat→Itm) (Q:S→Prop):Nat→Array Bool→S→Prop
 | 0,listed,s=>Region.ready .any ops listed=[]∧Q s
 | fuel+1,listed,s=>(Region.ready .any ops listed=[]→Q s)∧∀ i∈Region.ready .any ops listed,opN P n ops ann i (qg7 P n ops ann Q fuel (listed.setIfInBounds i true)) s
def Cm (n:Nat) (ops:Array Oper) (ii ij:Itm) (oi oj:Oper):Prop :=
 oi.apart ops oj=true∧((isV oi.op=true∧∀ id∈ii.rd,id∈ij.av)∨(isF oi.op=true∧isA oj.op=true∧oj.guard=none∧(∀ d,oj.dst=some d→d<n∧d ∉ ij.av)) ∨
  (isA oi.op=true∧oi.guard=none∧(∀ d,oi.dst=some d→d ∉ ii.av)∧isA oj.op=true∧oj.guard=none∧(∀ d,oj.dst=some d→d<n∧d ∉ ij.av)) ∨
  (NN n ii oi∧NN n ij oj∧(∀ d,oi.dst=some d→d ∉ ij.rd.drop 1)∧(∀ d,oj.dst=some d→d ∉ ii.rd.drop 1)∧∀ id∈ii.rd.drop 1,id ∉ ij.rd.drop 1))
theorem qz3 {rd:List Nat} {op:Op} (h:isN rd op=true):isF op=false:=by
 have:=quy h;cases op <;> try rfl
 rename_i c;obtain⟨callee,args,tys⟩:=c;cases callee <;> try rfl
 exact absurd rfl (this.2 _ _ _)
theorem qB2 {ii ij:Itm} {oi oj:Oper} (hc:Cm n ops ii ij oi oj) (hok:isF oi.op=true→aOk P oj s) (hs:qaC P n ops ii oi s (fun s1=>qaC P n ops ij oj s1 K)) :
  qaC P n ops ij oj s (fun s2=>qaC P n ops ii oi s2 K):=by
 obtain⟨hap,hV | hF | hA | hN⟩:=hc
 ·exact qB1 hV.1 hap hV.2 hs
 ·exact qB3 hF.1 hF.2.1 hF.2.2.1 hap (hok hF.1) (fun d hd=>(hF.2.2.2 d hd).1) (fun d hd=>(hF.2.2.2 d hd).2) hs
 ·exact qB4 hA.1 hA.2.1 hA.2.2.2.1 hA.2.2.2.2.1 hap hA.2.2.1 (fun d hd=>(hA.2.2.2.2.2 d hd).2) hs
 ·exact qyF hN.1 hN.2.1 hap hN.2.2.1 hN.2.2.2.1 hN.2.2.2.2 hs
theorem qk0 {ann:Nat→Itm} {Q:S→Prop} {i:Nat} {oi:Oper} (hi:ops[i]?=some oi) (B:List Nat) (hBw:∀ b∈B,∀ ob,ops[b]?=some ob→∃ e∈ob.after,Region.binds .any e=true∧(e.on=i∨e.on∈B)) :
  ∀ (fuel:Nat) (listed:Array Bool) (U:List Nat) (s:S),U.length≤fuel→(∀ j,j∈Region.ready .any ops listed→j≠i→j∈U)→(∀ j,j<ops.size→listed.getD j true=false→j≠i→j∈U)→(∀ b∈B,listed.getD b true=false) →
   (∀ j oj,ops[j]?=some oj→j≠i→listed.getD j true=false→j ∉ B→Cm n ops (ann i) (ann j) oi oj∧(isF oi.op=true→aOk P oj s)) →
   (isF oi.op=true→∀ j j' oj oj',ops[j]?=some oj→ops[j']?=some oj'→j≠j'→j≠i→j'≠i→listed.getD j true=false→listed.getD j' true=false→j ∉ B→j' ∉ B→oj.apart ops oj'=true) →
   i∈Region.ready .any ops listed→opN P n ops ann i (qg7 P n ops ann Q fuel (listed.setIfInBounds i true)) s→qg7 P n ops ann Q (fuel+1) listed s:=by
 intro fuel
 induction fuel with
 | zero =>
  intro listed U s hU hr hu hB hc hAA hir H;refine⟨fun h=>(by rw[h]at hir;cases hir),fun j hj=>?_⟩;by_cases hji:j=i
  ·subst hji;exact H
  ·have:=hr j hj hji;have:U=[]:=List.length_eq_zero_iff.1 (Nat.le_zero.1 hU);subst this;simp at *
 | succ fuel ih =>
  intro listed U s hU hr hu hB hc hAA hir H;refine⟨fun h=>(by rw[h]at hir;cases hir),fun j hj=>?_⟩;by_cases hji:j=i
  ·subst hji;exact H
  ·obtain⟨hjun,oj,hoj,hall⟩:=mem_ready.1 hj;have hiun:=(mem_ready.1 hir).1;have unl:∀ x,listed.getD x true=false→listed.getD x false=false:=fun x hx=>by
    rcases qFc x listed.size with h' | h'
    ·simp[h']at hx ⊢;exact hx
    ·simp[qFo h']at hx
   have hjB:j ∉ B:=fun hb=>by
    obtain⟨e,he,hbi,hon⟩:=hBw j hb oj hoj;have h1:=hall e he hbi;rcases hon with hon | hon
    ·rw[hon]at h1;rw[unl i hiun]at h1;cases h1
    ·rw[unl _ (hB _ hon)]at h1;cases h1
   obtain⟨hcm,hok⟩:=hc j oj hoj hji hjun hjB;have h1:qaC P n ops (ann i) oi s (fun s1=>qaC P n ops (ann j) oj s1 (qg7 P n ops ann Q fuel ((listed.setIfInBounds i true).setIfInBounds j true))):=by
    unfold opN at H;simp only[hi]at H;refine qcR (fun s1 h1=>?_) H;have:=h1.2 j (ready_mono hj hji);unfold opN at this;simpa only [hoj]using this
   have h2:=qB2 hcm hok h1;have hU':(U.erase j).length≤fuel:=by
    have hm:=hr j hj hji;have:=List.length_erase_of_mem hm;omega
   have hset:∀ x,(listed.setIfInBounds j true).getD x true=false→x≠j∧listed.getD x true=false:=fun x hx=>by
    by_cases hjx:j=x
    ·subst hjx;exfalso;rcases qFc j listed.size with h' | h'
     ·simp[h']at hx
     ·have:(listed.setIfInBounds j true)[j]?=none:=by simp;omega
      simp[qEo,this]at hx
    ·rw[getD_set_ne true hjx]at hx;exact⟨fun e=>hjx e.symm,hx⟩
   have go:∀ s2,(∀ j' oj',ops[j']?=some oj'→j'≠i→(listed.setIfInBounds j true).getD j' true=false→j' ∉ B→isF oi.op=true→aOk P oj' s2) →
     qaC P n ops (ann i) oi s2 (qg7 P n ops ann Q fuel ((listed.setIfInBounds i true).setIfInBounds j true))→qg7 P n ops ann Q (fuel+1) (listed.setIfInBounds j true) s2:=fun s2 hoks h=>by
    refine ih (listed.setIfInBounds j true) (U.erase j) s2 hU' (fun x hx hxi=>?_) (fun x hxs hx hxi=>?_) (fun b hb=>?_) (fun x ox hx hxi hxu hxB=>?_) (fun hF x x' ox ox' h1 h2 h3 h4 h5 h6 h7 h8 h9=>hAA hF x x' ox ox' h1 h2 h3 h4 h5 (hset x h6).2 (hset x' h7).2 h8 h9) (ready_mono hir (qD8 hji)) ?_
    ·obtain⟨hxu,ox,hox,_⟩:=mem_ready.1 hx;have:=hset x hxu;exact(qFY this.1).2 (hu x (qE7.1 hox).1 this.2 hxi)
    ·have:=hset x hx;exact(qFY this.1).2 (hu x hxs this.2 hxi)
    ·rw[getD_set_ne true (fun(e:j=b)=>hjB (by rw[e];exact hb))];exact hB b hb
    ·exact⟨(hc x ox hx hxi (hset x hxu).2 hxB).1,fun hF=>hoks x ox hx hxi hxu hxB hF⟩
    ·unfold opN;simp only[hi];rw[Array.setIfInBounds_comm _ _ (qD8 hji)]at h;exact h
   unfold opN;simp only[hoj];by_cases hF:isF oi.op=true
   ·have hA:isA oj.op=true∧oj.guard=none:=by
     obtain⟨_,hV | h | h | h⟩:=hcm
     ·exfalso;have hV1:=hV.1
      revert hF hV1
      cases oi.op <;> simp[isF,isV];rename_i c;obtain⟨callee,args,tys⟩:=c;cases callee <;> simp[isF,isV]
     ·exact⟨h.2.1,h.2.2.1⟩
     ·exact⟨h.2.2.2.1,h.2.2.2.2.1⟩
     ·rw[qz3 h.1.1]at hF;cases hF
    refine qcR (fun s2 h3=>go s2 (fun j' oj' hj' hji' hju' hjB' _=>?_) h3.1) (qtX hA.1 hA.2 h2);have hs':=hset j' hju';obtain⟨hcm',hok'⟩:=hc j' oj' hj' hji' hs'.2 hjB';have hA':isA oj'.op=true:=by
     obtain⟨_,hV | h | h | h⟩:=hcm'
     ·exfalso;have hV1:=hV.1
      revert hF hV1
      cases oi.op <;> simp[isF,isV];rename_i c;obtain⟨callee,args,tys⟩:=c;cases callee <;> simp[isF,isV]
     ·exact h.2.1
     ·exact h.2.2.2.1
     ·rw[qz3 h.1.1]at hF;cases hF
    exact h3.2 oj' hA' (hAA hF j j' oj oj' hoj hj' (qD8 hs'.1) hji hji' hjun hs'.2 hjB hjB') (hok' hF)
   ·exact qcR (fun s2 h3=>go s2 (fun j' oj' _ _ _ _ h=>absurd h hF) h3) h2
end
end Go.Av
end
section
namespace Go.Av
open Go.RowKit
def qAQ (plan:List Itm) (i:Nat):Itm:=(plan.find? (·.k == i)).getD ⟨i,[],[],[],[]⟩
def qsO (P:Program) (n:Nat) (ops:Array Oper) (K:S→Prop):List Itm→S→Prop
 | [],s=>K s
 | it::r,s=>qBI P (qAl ops it.fr) s∧(match ops[it.k]? with
  | some o=>qaC P n ops it o s (qsO P n ops K r)
  | none=>False)
def aB (n:Nat) (it:Itm) (o:Oper):Bool:=isA o.op && o.guard.isNone && (match o.dst with | some d=>decide (d<n) && !it.av.contains d | none=>false)
def nB (n:Nat) (it:Itm) (o:Oper):Bool:=isN it.rd o.op && o.guard.isNone && (match o.dst with | some d=>decide (d<n) && !it.av.contains d | none=>false) && (it.rd.drop 1).all (fun id=>!it.av.contains id)
def apB (ii ij:Itm) (oi oj:Oper):Bool:=(match oi.dst with | some d=>!(ij.rd.drop 1).contains d | none=>true) && (match oj.dst with | some d=>!(ii.rd.drop 1).contains d | none=>true) && (ii.rd.drop 1).all (fun id=>!(ij.rd.drop 1).contains id)
def cmB (n:Nat) (ops:Array Oper) (ii ij:Itm) (oi oj:Oper):Bool :=
 oi.apart ops oj && ((isV oi.op && ii.rd.all (ij.av.contains ·)) || (isF oi.op && aB n ij oj) || (isA oi.op && aB n ii oi && aB n ij oj) || (nB n ii oi && nB n ij oj && apB ii ij oi oj))
def itB (n:Nat) (ops:Array Oper) (it:Itm) (r:List Itm) (listed:Array Bool):Bool :=
 match ops[it.k]? with
 | none=>false
 | some oi =>
  (it.B.all fun b=>!listed.getD b true && (match ops[b]? with | some ob=>ob.after.any fun e=>Region.binds .any e && (e.on == it.k || it.B.contains e.on) | none=>false)) &&
  ((List.range ops.size).all fun j=>j == it.k || listed.getD j true || r.any (·.k == j)) &&
  (r.all fun jt=>it.B.contains jt.k || (match ops[jt.k]? with | some oj=>cmB n ops it jt oi oj && (!isF oi.op || it.fr.contains jt.k) | none=>false)) &&
  (!isF oi.op || r.all fun jt=>r.all fun jt'=>jt.k == jt'.k || it.B.contains jt.k || it.B.contains jt'.k || (match ops[jt.k]?,ops[jt'.k]? with | some a,some b=>a.apart ops b | _,_=>false))
def qfU (n:Nat) (ops:Array Oper):List Itm→Array Bool→Bool
 | [],listed=>(Region.ready .any ops listed).isEmpty
 | it::r,listed=>(Region.ready .any ops listed).contains it.k && itB n ops it r listed && qfU n ops r (listed.setIfInBounds it.k true)
def cvB (o:Oper):Bool:=match o.op with
 | .convert _ _ _=>o.dst.isSome
 | _=>true
def qsP (n:Nat) (ops:Array Oper) (plan:List Itm):Bool :=
 ops.toList.all cvB && (plan.all fun it=>decide (qAQ plan it.k=it)) && decide (plan.length=ops.size) && qfU n ops plan (Array.replicate ops.size false)
section
variable {P:Program} {n:Nat} {ops:Array Oper} {s:S} {K K':S→Prop}
theorem qnn {it:Itm} {o:Oper} (h:aB n it o=true):isA o.op=true∧o.guard=none∧∀ d,o.dst=some d→d<n∧d ∉ it.av:=by
 unfold aB at h;simp only[Bool.and_eq_true,qFZ]at h;refine⟨h.1.1,h.1.2,fun d hd=>?_⟩;have:=h.2;rw[hd]at this;simp only[Bool.and_eq_true,decide_eq_true_eq,qEV,qF0,decide_eq_false_iff_not]at this;exact this
theorem qq2 {it:Itm} {o:Oper} (h:nB n it o=true):NN n it o:=by
 unfold nB at h;simp only[Bool.and_eq_true,qFZ]at h;refine⟨h.1.1.1,h.1.1.2,fun d hd=>?_,fun id hid=>?_⟩
 ·have:=h.1.2;rw[hd]at this;simp only[Bool.and_eq_true,decide_eq_true_eq,qEV,qF0,decide_eq_false_iff_not]at this;exact this
 ·have:=qED.1 h.2 id hid;simpa using this
theorem qtW {ii ij:Itm} {oi oj:Oper} (h:apB ii ij oi oj=true):(∀ d,oi.dst=some d→d ∉ ij.rd.drop 1)∧(∀ d,oj.dst=some d→d ∉ ii.rd.drop 1)∧∀ id∈ii.rd.drop 1,id ∉ ij.rd.drop 1:=by
 unfold apB at h;simp only[Bool.and_eq_true]at h;refine⟨fun d hd=>?_,fun d hd=>?_,fun id hid=>?_⟩
 ·have:=h.1.1;rw[hd]at this;simpa using this
 ·have:=h.1.2;rw[hd]at this;simpa using this
 ·have:=qED.1 h.2 id hid;simpa using this
theorem qtI {ii ij:Itm} {oi oj:Oper} (h:cmB n ops ii ij oi oj=true):Cm n ops ii ij oi oj:=by
 unfold cmB at h;simp only[Bool.and_eq_true,qFW]at h;refine⟨h.1,?_⟩;rcases h.2 with((⟨h1,h2⟩ | ⟨h1,h2⟩) | ⟨⟨h1,h2⟩,h3⟩) | ⟨⟨h1,h2⟩,h3⟩
 ·exact .inl ⟨h1,fun id hid=>by
   have:=qED.1 h2 id hid;simpa using this⟩
 ·exact .inr (.inl ⟨h1,qnn h2⟩)
 ·have:=qnn h2;exact .inr (.inr (.inl ⟨h1,this.2.1,fun d hd=>(this.2.2 d hd).2,qnn h3⟩))
 ·exact .inr (.inr (.inr ⟨qq2 h1,qq2 h2,qtW h3⟩))
theorem qlt {ann:Nat→Itm} {Q:S→Prop}:∀ (plan:List Itm) (listed:Array Bool) (s:S),(∀ it∈plan,ann it.k=it)→qfU n ops plan listed=true→qsO P n ops Q plan s→qg7 P n ops ann Q plan.length listed s
 | [],listed,s,_,hB,h=>⟨by simpa [qfU]using hB,h⟩
 | it::r,listed,s,hann,hB,h=>by
  simp only[qfU,Bool.and_eq_true]at hB;obtain⟨⟨hr,hit⟩,hrest⟩:=hB;obtain⟨hfr,hg⟩:=h;cases hi:ops[it.k]? with
  | none=>simp[hi]at hg
  | some oi =>
   simp only[hi]at hg;unfold itB at hit;simp only[hi,Bool.and_eq_true]at hit;obtain⟨⟨⟨hb,hu⟩,hc⟩,hf⟩:=hit;have hrm:it.k∈Region.ready .any ops listed:=by simpa using hr
   have hin:∀ j,j<ops.size→listed.getD j true=false→j≠it.k→∃ jt∈r,jt.k=j:=fun j hj hl hne=>by
    have:=qED.1 hu j (qEE.2 hj);simp only[qFW,beq_iff_eq,hne,false_or,hl,qEl]at this;obtain⟨jt,h1,h2⟩:=qF1.1 this;exact⟨jt,h1,by simpa using h2⟩
   refine qk0 (oi:=oi) hi it.B (fun b hbm ob hob=>?_) r.length listed (r.map (·.k)) s (by simp) (fun j hj hne=>?_) (fun j hj hl hne=>?_) (fun b hbm=>?_) (fun j oj hoj hne hl hjB=>?_) (fun hF j j' oj oj' hoj hoj' hjj hne hne' hl hl' hjB hjB'=>?_) hrm ?_
   ·have:=qED.1 hb b hbm;simp only[hob,Bool.and_eq_true]at this;obtain⟨e,he,h2⟩:=Array.any_eq_true'.1 this.2;simp only[Bool.and_eq_true,qFW,beq_iff_eq,qF0,decide_eq_true_eq]at h2;exact⟨e,he,h2.1,h2.2⟩
   ·obtain⟨hl,oj,hoj,_⟩:=mem_ready.1 hj;obtain⟨jt,h1,h2⟩:=hin j (qE7.1 hoj).1 hl hne;exact qER.2 ⟨jt,h1,h2⟩
   ·obtain⟨jt,h1,h2⟩:=hin j hj hl hne;exact qER.2 ⟨jt,h1,h2⟩
   ·have:=qED.1 hb b hbm;simp only[Bool.and_eq_true,qEV]at this;exact this.1
   ·obtain⟨jt,h1,rfl⟩:=hin j (qE7.1 hoj).1 hl hne;have:=qED.1 hc jt h1;simp only[qFW,qF0,decide_eq_true_eq,hjB,false_or,hoj,Bool.and_eq_true,qEV]at this;rw[hann it (by simp),hann jt (qFK _ h1)];refine⟨qtI this.1,fun hF=>?_⟩;rcases this.2 with h2 | h2
    ·rw[h2]at hF;cases hF
    ·exact qmk hfr oj (List.mem_filterMap.2 ⟨jt.k,h2,hoj⟩)
   ·obtain⟨jt,h1,rfl⟩:=hin j (qE7.1 hoj).1 hl hne;obtain⟨jt',h1',rfl⟩:=hin j' (qE7.1 hoj').1 hl' hne';rw[hF]at hf;simp only[Bool.not_true,Bool.false_or]at hf;have:=qED.1 (qED.1 hf jt h1) jt' h1';simpa only [hoj,hoj',qFW,beq_iff_eq,hjj,qF0,decide_eq_true_eq,hjB,hjB',false_or]using this
   ·unfold opN;simp only[hi];rw[hann it (by simp)];exact qcR (fun s1 h1=>qlt r _ s1 (fun x hx=>hann x (qFK _ hx)) hrest h1) hg
theorem qh6 {it:Itm} {o:Oper} (hcv:cvB o=true) (h:qd0 P n ops it o s K):qhl P n o s K:=by
 unfold qd0 at h;unfold qhl;split at h
 ·rename_i hv;split at h
  ·rename_i p v he;have he2:qa8 P s.t s.h o=some (p,v):=qpi (fun id x hx=>by
    unfold qqw at hx;split at hx
    ·exact hx
    ·cases hx) he
   split
   ·rename_i x args tys ho;rw[ho]at hv;simp[isV]at hv
   ·rename_i hne;have hop:opS P o s=some (p,⟨qcw s.t o.dst v,s.h,s.u⟩):=by
     have hval:qfw P o s=some (p,⟨qcw s.t o.dst v,s.h,s.u⟩):=by unfold qfw;rw[he2]
     obtain⟨dst,op,ty,pos,after,guard⟩:=o;simp only at hv;cases op <;> simp only[isV,qEl]at hv <;> try exact hval
     ·cases dst with
      | none =>
       simp[cvB]at hcv
      | some d=>simp only[opS,he2];rfl
     ·rename_i c;obtain⟨callee,args,tys⟩:=c;cases callee with
      | builtin b=>cases b <;> simp only[isV,qEl]at hv <;> exact hval
      | _=>simp only[isV,qEl]at hv
    unfold qhG;rw[hop];exact⟨h.1,h.2.1,h.2.2⟩
  ·cases h
 ·split at h
  ·rename_i x args tys ho;rw[ho];exact qg6 (fun s' _ h=>h.2) h
  ·rename_i hne;split
   ·rename_i x args tys ho;exact absurd ho (hne x args tys)
   ·exact qfX (fun p s' _ h=>h.2) h.2
theorem qkr {it:Itm} {o:Oper} (hcv:cvB o=true) (h:qaC P n ops it o s K):qeR P n ops o s K:=by
 unfold qaC qfH at h;unfold qeR;cases hg:o.guard with
 | none =>
  simp only[hg]at h;exact qh6 hcv h
 | some gw =>
  obtain⟨g,want⟩:=gw;simp only[hg]at h ⊢;cases hd:(ops[g]?).bind (·.dst)with
  | none=>simp[hd]at h
  | some d =>
   simp only[hd]at h ⊢;cases ht:s.t d <;> simp only[ht]at h ⊢
   ·rename_i b;by_cases hb:b=want
    ·subst hb;simp only[beq_self_eq_true]at h;exact⟨fun _=>qh6 hcv h,fun e=>absurd rfl e⟩
    ·have:(b == want)=false:=by simpa using hb
     simp only[this]at h;exact⟨fun e=>absurd e hb,fun _=>h⟩
   ·exact h
theorem qh0 {ρ:Option Nat} {m:Nat} {c:Cx} (hn:c.n=n) {ann:Nat→Itm} {Q:S→Prop} {Q':Exit→Act→World→Prop} (hcv:∀ o∈ops.toList,cvB o=true) (hq:∀ s a w,(∃ Z γ,SRel c s Z γ a w)→Q s→Q' .normal a w) :
  ∀ (fuel:Nat) (listed:Array Bool) (s:S) (a:Act) (w:World),(∃ Z γ,SRel c s Z γ a w)→qg7 P n ops ann Q fuel listed s→wpAnyIn (fen ρ) m P .any ops Q' fuel listed a w
 | 0,listed,s,a,w,hs,h=>⟨h.1,hq s a w hs h.2⟩
 | fuel+1,listed,s,a,w,hs,h=>⟨fun h0=>hq s a w hs (h.1 h0),fun i hi=>by
   have h1:=h.2 i hi;unfold opN at h1;unfold wpOpIn;cases hi':ops[i]? with
   | none =>
    simp only[hi']at h1;exact qh0 hn hcv hq fuel _ s a w hs h1
   | some o =>
    simp only[hi']at h1;obtain⟨Z,γ,hs'⟩:=hs;have:=qlN (ρ:=ρ) (m:=m) (Q:=Q') hn hs' (qkr (hcv o (Array.mem_toList_iff.2 (Array.mem_of_getElem? hi'))) h1) (fun s' a' w' hs'' hk=>qh0 (ρ:=ρ) (m:=m) hn hcv hq fuel _ s' a' w' hs'' hk);simp only;split at this
    ·rename_i hw;rw[if_pos hw];exact this
    ·rename_i hw;rw[if_neg hw];exact⟨fun _ _=>trivial,this⟩⟩
theorem qvd {E:Env} {id:Nat} {plan:List Itm} {Q:Exit→S→Prop} (hm:P.follows .mixedOrders=true) (hp:qsP E.n ops plan=true) (h:qsO P E.n ops (Q .normal) plan s):VC P E (.region id ops true) s Q :=
 fun ρ m cx Z γ a w hr hn hi hs=>by
  unfold qsP at hp;simp only[Bool.and_eq_true,decide_eq_true_eq]at hp;obtain⟨⟨⟨hcv,hann⟩,hlen⟩,hfrom⟩:=hp;refine wpIn_region_any hm ?_;rw[← hlen];refine qh0 (ann:=qAQ plan) (Q:=Q .normal) hn (fun o ho=>qED.1 hcv o ho) (fun s' a' w' ⟨Z',γ',hs'⟩ hq=>⟨s',Z',γ',hs',hq⟩) plan.length _ s a _ ⟨Z,γ,hs.drew⟩ ?_;refine qlt plan _ s (fun it hit=>?_) (by rw[hlen];exact hfrom) h;have:=qED.1 hann it hit;simpa using this
end
end Go.Av
end
section
namespace Go.Av
open Go.RowKit
structure AOper where
 g:Option (Nat×Bool)
 d:Option Nat
 op:Op
structure DOper where
 o:AOper
 rd:List Nat
 av:List Nat
 fr:List (Nat×Op)
inductive ACode where
 | skip
 | reg (l:List AOper)
 | draw (l:List DOper)
 | seq (a b:ACode)
 | cond (c:Operand) (a b:ACode)
 | block (id:Nat) (a:ACode)
 | loop (a:ACode)
 | exit (id:Nat)
 | ret
 | rng (g:Operand) (p q:Nat) (a:ACode)
def qtu (n:Nat):Option Nat→Bool
 | some d=>decide (d<n)
 | none=>true
def qiS (n:Nat) (ops:Array Oper) (o:Oper):Option AOper :=
 if qtu n o.dst then
  match o.guard with
  | none=>some ⟨none,o.dst,o.op⟩
  | some (g,want)=>match (ops[g]?).bind (·.dst)with
   | some d=>some ⟨some (d,want),o.dst,o.op⟩
   | none=>none
 else none
def qkO (n:Nat) (ops:Array Oper):List Oper→Option (List AOper)
 | []=>some []
 | o::r=>match qiS n ops o,qkO n ops r with
  | some a,some l=>some (a::l)
  | _,_=>none
def qpp (ops:Array Oper):List Nat→Option (List (Nat×Op))
 | []=>some []
 | i::r=>match ops[i]?,qpp ops r with
  | some o,some l=>match o.dst with
   | some d=>some ((d,o.op)::l)
   | none=>none
  | _,_=>none
def qkP (n:Nat) (ops:Array Oper):List Itm→Option (List DOper)
 | []=>some []
 | it::r=>match ops[it.k]?,qkP n ops r,qpp ops it.fr with
  | some o,some l,some fr=>match qiS n ops o with
   | some a=>some (⟨a,it.rd,it.av,fr⟩::l)
   | none=>none
  | _,_,_=>none
def qjt:List (Nat×List Itm)→Nat→List Itm
 | [],_=>[]
 | (i,p)::r,j=>if j=i then p else qjt r j
def qxP (ps:Array Tmp) (asg:Code):Option (Nat×Nat):=match ps.toList,asg with
 | [p],.region _ ops false=>match ops.toList with
  | [o]=>match o.op,o.dst,o.guard with
   | .assign (.tmp p'),some q,none=>if p'=p then some (p,q) else none
   | _,_,_=>none
  | _=>none
 | _,_=>none
def qA0 (n:Nat) (g:Operand) (ps:Array Tmp) (asg b:Code) (x:Option ACode):Option (Operand×Nat×Nat×ACode):=match qxP ps asg,x with
 | some (p,q),some x=>if p<n∧q<n∧p≠q∧qir b=true then some (g,p,q,x) else none
 | _,_=>none
def comp (n:Nat) (pl:List (Nat×List Itm)):Code→Option ACode
 | .skip=>some .skip
 | .label _=>some .skip
 | .region _ ops false=>(qkO n ops ops.toList).map .reg
 | .region id ops true=>if qsP n ops (qjt pl id) then (qkP n ops (qjt pl id)).map .draw else none
 | .seq a b=>match comp n pl a,comp n pl b with
  | some x,some y=>some (.seq x y)
  | _,_=>none
 | .cond c a b=>match comp n pl a,comp n pl b with
  | some x,some y=>some (.cond c x y)
  | _,_=>none
 | .block id a=>(comp n pl a).map (.block id)
 | .loop a=>(comp n pl a).map .loop
 | .exit id=>some (.exit id)
 | .ret=>some .ret
 | .rangeFunc g ps asg b=>(qA0 n g ps asg b (comp n pl b)).map fun x=>.rng x.1 x.2.1 x.2.2.1 x.2.2.2
 | _=>none
def qex (r:Option (Prop×S)) (K:S→Prop):Prop :=
 match r with
 | some (p,s')=>p∧K s'
 | none=>False
def qc7 (r:Option (Prop×AV)) (d:Option Nat) (s:S) (K:S→Prop):Prop :=
 match r with
 | some (p,v)=>p∧K ⟨qcw s.t d v,s.h,s.u⟩
 | none=>False
def qi8 (P:Program) (f:Nat) (args:List AV) (dst:Option Nat) (s:S) (K:S→Prop):Prop :=
 qb8 P f=true∧∃ hv pl argsC L R,CallIn s hv pl args argsC L∧ACall P f argsC L R ∧
  ∀ r L',R r L'→∃ φ,CallOut s hv pl φ r L'∧K (qaf s pl φ dst r L')
def qme (P:Program) (v:AV) (args:List AV) (dst:Option Nat) (s:S) (K:S→Prop):Prop :=
 match v with
 | .fn f cap=>qi8 P f (args++cap) dst s K
 | _=>False
def qbh (P:Program) (op:Op) (d:Option Nat) (s:S) (K:S→Prop):Prop :=
 match op with
 | .call ⟨.value x,args,_⟩=>qme P (opd s.t x) (args.toList.map (opd s.t)) d s K
 | _=>qex (opS P ⟨d,op,0,"",#[],none⟩ s) K
def qfn (P:Program) (o:AOper) (s:S) (K:S→Prop):Prop :=
 match o.g with
 | none=>qbh P o.op o.d s K
 | some (g,want)=>match s.t g with
  | .bool b=>(b=want→qbh P o.op o.d s K)∧(b≠want→K ⟨qcw s.t o.d (.tup []),s.h,s.u⟩)
  | .tup _=>K ⟨qcw s.t o.d (.tup []),s.h,s.u⟩
  | _=>False
def qse (P:Program) (K:S→Prop):List AOper→S→Prop
 | [],s=>K s
 | o::r,s=>qfn P o s (qse P K r)
def qb5 (P:Program) (rd av:List Nat) (op:Op) (d:Option Nat) (s:S) (K:S→Prop):Prop :=
 if isV op=true then qc7 (qa8 P s.t (qqw rd s.h) ⟨d,op,0,"",#[],none⟩) d s K
 else match isG op with
  | true=>(rdG rd=true→gOk rd op s.t)∧qbh P op d s (fun s'=>qgq av s.h s'.h∧K s')
  | false=>qbh P op d s (fun s'=>qgq av s.h s'.h∧K s')
def qfm (P:Program) (o:DOper) (s:S) (K:S→Prop):Prop :=
 match o.o.g with
 | none=>qb5 P o.rd o.av o.o.op o.o.d s K
 | some (g,want)=>match s.t g with
  | .bool b=>(b=want→qb5 P o.rd o.av o.o.op o.o.d s K)∧(b≠want→K ⟨qcw s.t o.o.d (.tup []),s.h,s.u⟩)
  | .tup _=>K ⟨qcw s.t o.o.d (.tup []),s.h,s.u⟩
  | _=>False
def frA (P:Program):List (Nat×Op)→S→Prop
 | [],_=>True
 | (d,op)::r,s=>(qex (opS P ⟨some d,op,0,"",#[],none⟩ s) (fun _=>True)∧s.h d=none)∧frA P r s
def qi5 (P:Program) (K:S→Prop):List DOper→S→Prop
 | [],s=>K s
 | o::r,s=>frA P o.fr s∧qfm P o s (qi5 P K r)
section
variable {P:Program} {n:Nat} {E:Env} {s:S} {K:S→Prop}
theorem qn1 (o:Oper):opS P o s=opS P ⟨o.dst,o.op,0,"",#[],none⟩ s:=by
 obtain⟨d,op,_,_,_,_⟩:=o;rfl
theorem qgt {o:Oper} (hd:qtu n o.dst=true) (h:qbh P o.op o.dst s K):qhl P n o s K:=by
 unfold qbh at h;unfold qhl;have hdd:∀ k,o.dst=some k→k<n:=fun k hk=>by rw[hk]at hd;simpa [qtu]using hd
 split at h
 ·rename_i x args tys ho;simp only[ho];unfold qme at h;unfold qi7;split at h
  ·rename_i f cap hx;simp only[hx];exact⟨h.1,hdd,h.2⟩
  ·cases h
 ·rename_i hne;have h2:qhG n o.dst (opS P o s) K:=by
   unfold qex at h;unfold qhG;rw[qn1];split at h
   ·rename_i p s' he;simp only[he];refine⟨h.1,?_,h.2⟩;cases hx:o.dst with
    | none=>trivial
    | some k=>exact hdd k hx
   ·cases h
  split
  ·rename_i x args tys ho;exact absurd ho (hne x args tys)
  ·exact h2
theorem qlP {ops:Array Oper} {o:Oper} {a:AOper} (hc:qiS n ops o=some a) (h:qfn P a s K):qeR P n ops o s K:=by
 unfold qiS at hc;split at hc
 ·rename_i hd;have hdd:match o.dst with | some d=>d<n | none=>True:=by
   cases hx:o.dst with
   | none=>trivial
   | some k=>rw[hx]at hd;simpa [qtu]using hd
  split at hc
  ·rename_i hg;injection hc with hc;subst hc;unfold qeR;simp only[hg];exact qgt hd h
  ·rename_i g want hg;split at hc
   ·rename_i d hb;injection hc with hc;subst hc;unfold qeR;simp only[hg,hb];unfold qfn at h;simp only at h;split at h
    ·rename_i b hbb;simp only[hbb];exact⟨fun e=>qgt hd (h.1 e),fun e=>⟨hdd,h.2 e⟩⟩
    ·rename_i l hbb;simp only[hbb];exact⟨hdd,h⟩
    ·cases h
   ·cases hc
 ·cases hc
theorem qji {o:Oper} {K':S→Prop} (hk:∀ s,K s→K' s) (h:qhl P n o s K):qhl P n o s K':=by
 unfold qhl at *
 split at h
 ·unfold qi7 at *
  split at h
  ·obtain⟨h1,h2,hv,pl,argsC,L,R,h3,h4,h5⟩:=h;refine⟨h1,h2,hv,pl,argsC,L,R,h3,h4,fun r L' hr=>?_⟩;obtain⟨φ,h6,h7⟩:=h5 r L' hr;exact⟨φ,h6,hk _ h7⟩
  ·exact h
 ·unfold qhG at *
  split at h
  ·exact⟨h.1,h.2.1,hk _ h.2.2⟩
  ·exact h
theorem qmQ {ops:Array Oper} {o:Oper} {K':S→Prop} (hk:∀ s,K s→K' s) (h:qeR P n ops o s K):qeR P n ops o s K':=by
 unfold qeR at *
 split at h
 ·exact qji hk h
 ·split at h
  ·split at h
   ·exact⟨fun e=>qji hk (h.1 e),fun e=>⟨(h.2 e).1,hk _ (h.2 e).2⟩⟩
   ·exact⟨h.1,hk _ h.2⟩
   ·exact h
  ·exact h
theorem qnN {ops:Array Oper}:∀ {l:List Oper} {al:List AOper} {s:S},qkO n ops l=some al→qse P K al s→qA6 P n ops K l s
 | [],al,s,hc,h=>by simp only[qkO,qEd]at hc;subst hc;exact h
 | o::l,al,s,hc,h=>by
  simp only[qkO]at hc;split at hc
  ·rename_i a al' h1 h2;injection hc with hc;subst hc;exact qmQ (fun s' h'=>qnN h2 h') (qlP h1 h)
  ·cases hc
theorem qph (o:Oper) {t:Tm} {h:Hp}:qa8 P t h o=qa8 P t h ⟨o.dst,o.op,0,"",#[],none⟩:=by
 obtain⟨d,op,_,_,_,_⟩:=o;rfl
theorem qjj {ops:Array Oper} {it:Itm} {o:Oper} (hd:qtu n o.dst=true) (h:qb5 P it.rd it.av o.op o.dst s K):qd0 P n ops it o s K:=by
 have hdd:match o.dst with | some d=>d<n | none=>True:=by
  cases hx:o.dst with
  | none=>trivial
  | some k=>rw[hx]at hd;simpa [qtu]using hd
 unfold qb5 at h;unfold qd0;split at h
 ·rename_i hv;rw[if_pos hv];rw[qph o];unfold qc7 at h;split at h
  ·rename_i p v he
   try simp only[he]
   exact⟨h.1,hdd,h.2⟩
  ·cases h
 ·rename_i hv;rw[if_neg hv];have h2:(qsh it.rd o.op=true→gOk it.rd o.op s.t)∧qbh P o.op o.dst s (fun s'=>qgq it.av s.h s'.h∧K s'):=by
   split at h
   ·exact⟨fun hm=>h.1 (by unfold qsh at hm;simp only[Bool.and_eq_true]at hm;exact hm.2),h.2⟩
   ·rename_i hg;exact⟨fun hm=>by unfold qsh at hm;rw[hg]at hm;simp at hm,h⟩
  have h3:=qgt (n:=n) hd h2.2;unfold qhl at h3;split at h3
  ·rename_i ho;simp only[ho];exact h3
  ·rename_i hne;split
   ·rename_i ho;exact absurd ho (hne _ _ _)
   ·exact⟨h2.1,h3⟩
theorem qlO {ops:Array Oper} {it:Itm} {o:Oper} {a:AOper} {fr:List (Nat×Op)} (hc:qiS n ops o=some a) (h:qfm P ⟨a,it.rd,it.av,fr⟩ s K):qaC P n ops it o s K:=by
 unfold qiS at hc;split at hc
 ·rename_i hd;have hdd:match o.dst with | some d=>d<n | none=>True:=by
   cases hx:o.dst with
   | none=>trivial
   | some k=>rw[hx]at hd;simpa [qtu]using hd
  split at hc
  ·rename_i hg;injection hc with hc;subst hc;unfold qaC qfH;simp only[hg];exact qjj hd h
  ·rename_i g want hg;split at hc
   ·rename_i d hb;injection hc with hc;subst hc;unfold qaC qfH;simp only[hg,hb];unfold qfm at h;simp only at h;cases ht:s.t d <;> simp only[ht]at h ⊢
    ·rename_i b;by_cases hbw:b=want
     ·subst hbw;simp only[beq_self_eq_true];exact qjj hd (h.1 rfl)
     ·have:(b == want)=false:=by simpa using hbw
      simp only[this];exact⟨hdd,h.2 hbw⟩
    ·exact⟨hdd,h⟩
   ·cases hc
 ·cases hc
theorem quG {ops:Array Oper}:∀ {l:List Nat} {fr:List (Nat×Op)},qpp ops l=some fr→frA P fr s→qBI P (qAl ops l) s
 | [],fr,hc,h=>trivial
 | i::r,fr,hc,h=>by
  simp only[qpp]at hc;split at hc
  ·rename_i o l h1 h2;split at hc
   ·rename_i d hd;injection hc with hc;subst hc;have hf:qAl ops (i::r)=o::qAl ops r:=by simp[qAl,h1]
    rw[hf];refine⟨⟨?_,by rw[hd];exact h.1.2⟩,quG h2 h.2⟩;have h3:=h.1.1;rw[qn1,hd];unfold qex at h3;split at h3
    ·rename_i p s' he;(try simp only[he]);exact h3.1
    ·exact h3.elim
   ·cases hc
  ·cases hc
theorem qjD {ops:Array Oper}:∀ {plan:List Itm} {l:List DOper} {s:S},qkP n ops plan=some l→qi5 P K l s→qsO P n ops K plan s
 | [],l,s,hc,h=>by simp only[qkP,qEd]at hc;subst hc;exact h
 | it::r,l,s,hc,h=>by
  simp only[qkP]at hc;split at hc
  ·rename_i o l' fr h1 h2 h3;split at hc
   ·rename_i a h4;injection hc with hc;subst hc;refine⟨quG h3 h.1,?_⟩;rw[h1];exact qcR (fun s' h'=>qjD h2 h') (qlO h4 h.2)
   ·cases hc
  ·cases hc
def VA (P:Program) (E:Env) (a:ACode) (s:S) (Q:Exit→S→Prop):Prop:=∀ pl c,comp E.n pl c=some a→VC P E c s Q
variable {Q:Exit→S→Prop}
theorem qiR {pl:List (Nat×List Itm)} {c:Code} (h:comp n pl c=some .skip):c=.skip∨∃ l,c=.label l:=by
 cases c with
 | skip=>exact .inl rfl
 | label l=>exact .inr ⟨l,rfl⟩
 | region id ops b=>cases b <;> simp[comp,Option.map]at h <;> (try split at h) <;> (try simp at h) <;> (try split at h) <;> (try simp at h)
 | seq a b=>simp only[comp]at h;split at h <;> simp at h
 | cond c a b=>simp only[comp]at h;split at h <;> simp at h
 | block id a=>simp[comp]at h
 | loop a=>simp[comp]at h
 | _=>simp[comp]at h
theorem qvf (h:Q .normal s):VA P E .skip s Q:=fun pl c hc=>by
 rcases qiR hc with rfl | ⟨l,rfl⟩
 ·exact qu9 h
 ·exact qsi h
theorem qyw {l:List AOper} (h:qse P (Q .normal) l s):VA P E (.reg l) s Q:=fun pl c hc=>by
 cases c with
 | region id ops b =>
  cases b with
  | false =>
   simp only[comp,qF2,ACode.reg.injEq]at hc;obtain⟨l',h1,rfl⟩:=hc;have:=qpJ (P:=P) (E:=E) (id:=id) (l:=ops.toList) (Q:=Q) (s:=s) (qnN (by simpa using h1) h);simpa using this
  | true=>simp[comp,Option.map]at hc;split at hc <;> simp at hc
 | seq a b=>simp only[comp]at hc;split at hc <;> simp at hc
 | cond c a b=>simp only[comp]at hc;split at hc <;> simp at hc
 | block id a=>simp[comp]at hc
 | loop a=>simp[comp]at hc
 | _=>simp[comp]at hc
theorem qvi {l:List DOper} (hm:P.follows .mixedOrders=true) (h:qi5 P (Q .normal) l s):VA P E (.draw l) s Q:=fun pl c hc=>by
 cases c with
 | region id ops b =>
  cases b with
  | false=>simp[comp,Option.map]at hc;split at hc <;> simp at hc
  | true =>
   simp only[comp]at hc;split at hc
   ·rename_i hp;simp only[qF2,ACode.draw.injEq]at hc;obtain⟨l',h1,rfl⟩:=hc;exact qvd hm hp (qjD h1 h)
   ·cases hc
 | seq a b=>simp only[comp]at hc;split at hc <;> simp at hc
 | cond c a b=>simp only[comp]at hc;split at hc <;> simp at hc
 | block id a=>simp[comp]at hc
 | loop a=>simp[comp]at hc
 | _=>simp[comp]at hc
theorem qja {x y:ACode} (h:VA P E x s (qfg (fun s'=>VA P E y s' Q) Q)):VA P E (.seq x y) s Q:=fun pl c hc=>by
 cases c with
 | seq a b =>
  simp only[comp]at hc;split at hc
  ·rename_i x' y' h1 h2;injection hc with hc;injection hc with e1 e2;subst e1;subst e2;refine qyr ((h pl a h1).mono fun e s' h'=>?_);cases e with
   | normal=>exact h' pl b h2
   | _=>exact h'
  ·cases hc
 | region id ops b=>cases b <;> simp[comp,Option.map]at hc <;> (try split at hc) <;> (try simp at hc) <;> (try split at hc) <;> (try simp at hc)
 | cond c a b=>simp only[comp]at hc;split at hc <;> simp at hc
 | block id a=>simp[comp]at hc
 | loop a=>simp[comp]at hc
 | _=>simp[comp]at hc
theorem qvk {c:Operand} {x y:ACode} {b:Bool} (hb:opd s.t c=.bool b) (ht:b=true→VA P E x s Q) (hf:b=false→VA P E y s Q):VA P E (.cond c x y) s Q:=fun pl k hc=>by
 cases k with
 | cond c' a b =>
  simp only[comp]at hc;split at hc
  ·rename_i x' y' h1 h2;injection hc with hc;injection hc with e0 e1 e2;subst e0;subst e1;subst e2;exact qve hb (fun e=>ht e pl a h1) (fun e=>hf e pl b h2)
  ·cases hc
 | region id ops b=>cases b <;> simp[comp,Option.map]at hc <;> (try split at hc) <;> (try simp at hc) <;> (try split at hc) <;> (try simp at hc)
 | seq a b=>simp only[comp]at hc;split at hc <;> simp at hc
 | block id a=>simp[comp]at hc
 | loop a=>simp[comp]at hc
 | _=>simp[comp]at hc
theorem qmt {c:Operand} {x y:ACode} (hb:opd s.t c=.anyb) (ht:VA P E x s Q) (hf:VA P E y s Q):VA P E (.cond c x y) s Q:=fun pl k hc=>by
 cases k with
 | cond c' a b =>
  simp only[comp]at hc;split at hc
  ·rename_i x' y' h1 h2;injection hc with hc;injection hc with e0 e1 e2;subst e0;subst e1;subst e2;exact qms hb (ht pl a h1) (hf pl b h2)
  ·cases hc
 | region id ops b=>cases b <;> simp[comp,Option.map]at hc <;> (try split at hc) <;> (try simp at hc) <;> (try split at hc) <;> (try simp at hc)
 | seq a b=>simp only[comp]at hc;split at hc <;> simp at hc
 | block id a=>simp[comp]at hc
 | loop a=>simp[comp]at hc
 | _=>simp[comp]at hc
theorem qsl {id:Nat} {x:ACode} (h:VA P E x s (qfu id Q)):VA P E (.block id x) s Q:=fun pl c hc=>by
 cases c with
 | block id' a =>
  simp only[comp,qF2,ACode.block.injEq]at hc;obtain⟨l',h1,rfl,rfl⟩:=hc;exact qsj (h pl a h1)
 | region id ops b=>cases b <;> simp[comp,Option.map]at hc <;> (try split at hc) <;> (try simp at hc) <;> (try split at hc) <;> (try simp at hc)
 | seq a b=>simp only[comp]at hc;split at hc <;> simp at hc
 | cond c a b=>simp only[comp]at hc;split at hc <;> simp at hc
 | loop a=>simp[comp]at hc
 | _=>simp[comp]at hc
theorem qvg {x:ACode} (I:Nat→S→Prop) (k:Nat) (h0:I k s)
  (round:∀ k s,I k s→VA P E x s (qfg (fun s'=>∃ k',k'<k∧I k' s') Q)):VA P E (.loop x) s Q:=fun pl c hc=>by
 cases c with
 | loop a =>
  simp only[comp,qF2,ACode.loop.injEq]at hc;obtain⟨l',h1,rfl⟩:=hc;exact qvb I k h0 fun k s hI=>round k s hI pl a h1
 | region id ops b=>cases b <;> simp[comp,Option.map]at hc <;> (try split at hc) <;> (try simp at hc) <;> (try split at hc) <;> (try simp at hc)
 | seq a b=>simp only[comp]at hc;split at hc <;> simp at hc
 | cond c a b=>simp only[comp]at hc;split at hc <;> simp at hc
 | block id a=>simp[comp]at hc
 | _=>simp[comp]at hc
theorem qvh {id:Nat} (h:Q (.exit id) s):VA P E (.exit id) s Q:=fun pl c hc=>by
 cases c with
 | exit id' =>
  simp only[comp,qEd,ACode.exit.injEq]at hc;subst hc;exact qvc h
 | region id ops b=>cases b <;> simp[comp,Option.map]at hc <;> (try split at hc) <;> (try simp at hc) <;> (try split at hc) <;> (try simp at hc)
 | seq a b=>simp only[comp]at hc;split at hc <;> simp at hc
 | cond c a b=>simp only[comp]at hc;split at hc <;> simp at hc
 | block id a=>simp[comp]at hc
 | loop a=>simp[comp]at hc
 | _=>simp[comp]at hc
theorem qyv (h:Q .ret s):VA P E .ret s Q:=fun pl c hc=>by
 cases c with
 | ret=>exact qys h
 | region id ops b=>cases b <;> simp[comp,Option.map]at hc <;> (try split at hc) <;> (try simp at hc) <;> (try split at hc) <;> (try simp at hc)
 | seq a b=>simp only[comp]at hc;split at hc <;> simp at hc
 | cond c a b=>simp only[comp]at hc;split at hc <;> simp at hc
 | block id a=>simp[comp]at hc
 | loop a=>simp[comp]at hc
 | _=>simp[comp]at hc
theorem VA.mono {c:ACode} {Q':Exit→S→Prop} (h:VA P E c s Q) (hq:∀ e s,Q e s→Q' e s):VA P E c s Q':=fun pl k hk=>(h pl k hk).mono hq
theorem qpK {c:ACode} {s':S} (hw:SW E s s') (h:VA P E c s' Q):VA P E c s Q:=fun pl k hk=>qyt hw (h pl k hk)
theorem qpL {c:ACode} (h:VA P E c s fun e s'=>∃ s'',SW E s' s''∧Q e s''):VA P E c s Q:=fun pl k hk=>qva (h pl k hk)
theorem qr8 {f:Nat} (hbd:hasBody P f=true) {fn:Func} {ac:ACode} {args:List AV} {L:List (Nat×Ob)} {R:AV→List (Nat×Ob)→Prop} (n:Nat) (pl:List (Nat×List Itm)) (rs:List ResultVar) (hf:P.funcs[f]?=some fn) (hc:fn.body.bind (comp n pl)=some ac) (hn:fn.ntmps=n)
  (hr:fn.results.toList=rs) (ha:args.length≤n) (hL:(L.map (·.1)).Nodup)
  (h:VA P ⟨n,L.map (·.1)⟩ ac ⟨qr7 args,qaG L,Us.of (L.map (·.1))⟩ (qnK P rs R)):ACall P f args L R:=by
 subst hn;subst hr;cases hb:fn.body with
 | none=>simp[hb]at hc
 | some b =>
  rw[hb]at hc;exact qDh hbd hf hb ha hL (h pl b hc)
end
end Go.Av
end
section
namespace Go.Av
open Go.RowKit
section
variable {P:Program} {s:S} {K:S→Prop} {d:Option Nat} {k:Nat}
@[simp] theorem qA7:qse P K [] s=K s:=rfl
@[simp] theorem qzq (o:AOper) (r:List AOper):qse P K (o::r) s=qfn P o s (qse P K r):=rfl
@[simp] theorem qw9 (op:Op):qfn P ⟨none,d,op⟩ s K=qbh P op d s K:=rfl
def gd (P:Program) (g:Nat) (want:Bool) (op:Op) (d:Option Nat) (s:S) (K:S→Prop):AV→Prop
 | .bool b=>(b=want→qbh P op d ⟨upd s.t g (.bool want),s.h,s.u⟩ K)∧(b=(!want)→K ⟨qcw (upd s.t g (.bool (!want))) d (.tup []),s.h,s.u⟩)
 | .tup _=>K ⟨qcw s.t d (.tup []),s.h,s.u⟩
 | _=>False
theorem qnr {α:Type} (f:Nat→α) (k:Nat) (v:α) (h:f k=v):upd f k v=f:=by
 funext i;unfold upd;split
 ·rename_i hi;rw[hi,h]
 ·rfl
theorem qmU (g:Nat) (want:Bool) (op:Op):qfn P ⟨some (g,want),d,op⟩ s K=gd P g want op d s K (s.t g):=by
 simp only[qfn,gd];cases hv:s.t g <;> try rfl
 rename_i b;simp only;cases b <;> cases want <;> simp[qnr _ _ _ hv]
attribute [simp] qmU
@[simp] theorem qDT (g:Nat) (op:Op):gd P g true op d s K (.bool true)=qbh P op d ⟨upd s.t g (.bool true),s.h,s.u⟩ K:=by simp[gd]
@[simp] theorem qDW (g:Nat) (op:Op):gd P g false op d s K (.bool false)=qbh P op d ⟨upd s.t g (.bool false),s.h,s.u⟩ K:=by simp[gd]
@[simp] theorem qDU (g:Nat) (op:Op):gd P g true op d s K (.bool false)=K ⟨qcw (upd s.t g (.bool false)) d (.tup []),s.h,s.u⟩:=by simp[gd]
@[simp] theorem qDV (g:Nat) (op:Op):gd P g false op d s K (.bool true)=K ⟨qcw (upd s.t g (.bool true)) d (.tup []),s.h,s.u⟩:=by simp[gd]
@[simp low] theorem qCR (g:Nat) (want b:Bool) (op:Op):gd P g want op d s K (.bool b)=((b=want→qbh P op d ⟨upd s.t g (.bool want),s.h,s.u⟩ K)∧(b=(!want)→K ⟨qcw (upd s.t g (.bool (!want))) d (.tup []),s.h,s.u⟩)):=rfl
@[simp] theorem qDm (g:Nat) (want:Bool) (l:List AV) (op:Op):gd P g want op d s K (.tup l)=K ⟨qcw s.t d (.tup []),s.h,s.u⟩:=rfl
@[simp] theorem qzy (p:Prop) (s':S):qex (some (p,s')) K=(p∧K s'):=rfl
@[simp] theorem qzz:qex none K=False:=rfl
@[simp] theorem qzw (p:Prop) (v:AV):qc7 (some (p,v)) d s K=(p∧K ⟨qcw s.t d v,s.h,s.u⟩):=rfl
@[simp] theorem qzx:qc7 none d s K=False:=rfl
@[simp] theorem qCp (t:Tm) (i:Nat):opd t (.tmp i)=t i:=rfl
@[simp] theorem qCr (t:Tm) (kk:IntKind) (n:Int):opd t (.const (.int kk n))=.int kk n:=rfl
@[simp] theorem qBe (t:Tm) (b:Bool):opd t (.const (.bool b))=.bool b:=rfl
@[simp] theorem qCq (t:Tm) (a:Array UInt8):opd t (.const (.string ⟨a⟩))=.str a.toList:=rfl
@[simp] theorem qBb (t:Tm):opd t (.const (.pointer none))=.nilp:=rfl
@[simp] theorem qBa (t:Tm):opd t (.const (.slice none 0 0))=.nils:=rfl
@[simp] theorem qBc (t:Tm):opd t (.const .nilIface)=.nili:=rfl
@[simp] theorem qCs (t:Tm) (cs:Array Value):opd t (.const (.agg cs))=.agg (cs.toList.map av1):=rfl
@[simp] theorem qBd (t:Tm) (f:Nat):opd t (.func f)=.fn f []:=rfl
attribute [simp] av1
@[simp] theorem qzt (t:Tm) (k:Nat) (v:AV):qcw t (some k) v=upd t k v:=rfl
@[simp] theorem qzu (t:Tm) (v:AV):qcw t none v=t:=rfl
@[simp] theorem qBK {α:Type} (f:Nat→α) (k:Nat) (v:α) (i:Nat):upd f k v i=if i=k then v else f i:=rfl
@[simp] theorem qCA (i:Nat):mkT [] i=.top:=rfl
@[simp] theorem qBn (j:Nat) (v:AV) (r:List (Nat×AV)) (i:Nat):mkT ((j,v)::r) i=if i=j then v else mkT r i:=rfl
@[simp] theorem qtf (i:Nat):qaG [] i=none:=rfl
@[simp] theorem qdt (j:Nat) (o:Ob) (r:List (Nat×Ob)) (i:Nat):qaG ((j,o)::r) i=if i=j then some o else qaG r i:=by simp only[qaG]
attribute [simp] Us.mem_cons Us.mem_app Us.mem_of
@[simp] theorem qBE (l:List AV) (i:Nat):qr7 l i=l.getD i .top:=rfl
theorem qba (op:Op):qex (qfw P ⟨d,op,0,"",#[],none⟩ s) K=qc7 (qa8 P s.t s.h ⟨d,op,0,"",#[],none⟩) d s K:=by
 unfold qfw;cases qa8 P s.t s.h ⟨d,op,0,"",#[],none⟩with
 | none=>rfl
 | some r=>obtain⟨p,v⟩:=r;rfl
@[simp] theorem qx1 (x:Operand):qbh P (.move x) d s K=K ⟨qcw s.t d (opd s.t x),s.h,s.u⟩:=by
 show qex (qfw P ⟨d,.move x,0,"",#[],none⟩ s) K=_;rw[qba];simp[qa8]
@[simp] theorem quc (x:Operand):qbh P (.assign x) d s K=K ⟨qcw s.t d (opd s.t x),s.h,s.u⟩:=by
 show qex (qfw P ⟨d,.assign x,0,"",#[],none⟩ s) K=_;rw[qba];simp[qa8]
def qrJ (c a b:AV):Option (Prop×AV) :=
 match c with
 | .bool c=>some (True,if c=true then a else b)
 | _=>none
@[simp] theorem qxg (c:Bool) (a b:AV):qrJ (.bool c) a b=some (True,if c=true then a else b):=rfl
@[simp] theorem qx0 (c a b:Operand):qbh P (.pick c a b) d s K=qc7 (qrJ (opd s.t c) (opd s.t a) (opd s.t b)) d s K:=by
 show qex (qfw P ⟨d,.pick c a b,0,"",#[],none⟩ s) K=_;rw[qba];rfl
@[simp] theorem qvL (ty:Nat) (parts:Array (Nat×Operand)):qbh P (.build ty parts) d s K=qc7 (qgX P ty (parts.toList.map fun x=>(x.1,opd s.t x.2))) d s K:=by
 show qex (qfw P ⟨d,.build ty parts,0,"",#[],none⟩ s) K=_;rw[qba];rfl
@[simp] theorem qx2 (ty:Nat) (a:Operand):qbh P (.load ty a) d s K=qc7 (qfr P s.h ty (opd s.t a)) d s K:=by
 show qex (qfw P ⟨d,.load ty a,0,"",#[],none⟩ s) K=_;rw[qba];rfl
def qC0 (x:AV):Option (Prop×AV) :=
 match x with
  | .ptr id e k=>some (True,.ptr id e k)
  | .elm cs=>some (True,.elm cs)
  | .fn f c=>some (True,.fn f c)
  | _=>none
@[simp] theorem qsc (x:Operand):qbh P (.nilCheck x) d s K=qc7 (qC0 (opd s.t x)) d s K:=by
 show qex (qfw P ⟨d,.nilCheck x,0,"",#[],none⟩ s) K=_;rw[qba];rfl
@[simp] theorem qvM (op:BinOp) (xt:Nat) (x y:Operand) (yt:Nat):qbh P (.binOp op xt x y yt) d s K=qc7 (qpm P op xt x y (opd s.t x) (opd s.t y)) d s K:=by
 show qex (qfw P ⟨d,.binOp op xt x y yt,0,"",#[],none⟩ s) K=_;rw[qba];rfl
@[simp] theorem qxZ (op:UnOp) (xt:Nat) (x:Operand):qbh P (.unOp op xt x) d s K=qc7 (qyf op (opd s.t x)) d s K:=by
 show qex (qfw P ⟨d,.unOp op xt x,0,"",#[],none⟩ s) K=_;rw[qba];rfl
def qxC (r:Option (Prop×AV)) (b:Option (Prop×S)) (k:Nat) (s:S) (K:S→Prop):Prop :=
 match r with
 | some (p,v)=>p∧K ⟨upd s.t k v,s.h,s.u⟩
 | none=>qex b K
@[simp] theorem qyj (p:Prop) (v:AV) (b:Option (Prop×S)):qxC (some (p,v)) b k s K=(p∧K ⟨upd s.t k v,s.h,s.u⟩):=rfl
@[simp] theorem qyk (b:Option (Prop×S)):qxC none b k s K=qex b K:=rfl
@[simp] theorem qsA (sr ds:Nat) (x:Operand):qbh P (.convert sr ds x) (some k) s K=qxC (qdN P s.h sr ds (opd s.t x)) (qfK P s k sr ds (opd s.t x)) k s K:=by
 show qex (opS P ⟨some k,.convert sr ds x,0,"",#[],none⟩ s) K=_;simp only[opS,qa8];cases qdN P s.h sr ds (opd s.t x)with
 | none=>rfl
 | some r=>obtain⟨p,v⟩:=r;rfl
@[simp] theorem qsd (f:Nat) (cap:Array Operand):qbh P (.makeFunc (.func f) #[] cap) d s K=K ⟨qcw s.t d (.fn f (cap.toList.map (opd s.t))),s.h,s.u⟩:=by
 show qex (qfw P ⟨d,.makeFunc (.func f) #[] cap,0,"",#[],none⟩ s) K=_;rw[qba];simp[qa8]
@[simp] theorem qvI (ty:Nat) (x:Operand) (lo hi:Option Operand):qbh P (.slice ty x lo hi none) d s K=qc7 (qcn P s.h ty (opd s.t x) (lo.map (opd s.t)) (hi.map (opd s.t))) d s K:=by
 show qex (qfw P ⟨d,.slice ty x lo hi none,0,"",#[],none⟩ s) K=_;rw[qba];rfl
@[simp] theorem qp9 (ty:Nat) (x:Operand) (f:Nat):qbh P (.fieldAddr ty x f) d s K=qc7 (qcg P ty f (opd s.t x)) d s K:=by
 show qex (qfw P ⟨d,.fieldAddr ty x f,0,"",#[],none⟩ s) K=_;rw[qba];rfl
@[simp] theorem qp8 (ty:Nat) (x i:Operand):qbh P (.indexAddr ty x i) d s K=qc7 (qcu P s.h ty (opd s.t x) (opd s.t i)) d s K:=by
 show qex (qfw P ⟨d,.indexAddr ty x i,0,"",#[],none⟩ s) K=_;rw[qba];rfl
@[simp] theorem qvJ (ty:Nat) (x i:Operand):qbh P (.index ty x i) d s K=qc7 (qgV P ty (opd s.t x) (opd s.t i)) d s K:=by
 show qex (qfw P ⟨d,.index ty x i,0,"",#[],none⟩ s) K=_;rw[qba];rfl
def qxi (x:AV) (ix:Nat):Option (Prop×AV) :=
 match x with
  | .tup vs=>match vs[ix]? with
   | some v=>some (True,v)
   | none=>none
  | _=>none
@[simp] theorem qsz (x:Operand) (ix:Nat):qbh P (.extract x ix) d s K=qc7 (qxi (opd s.t x) ix) d s K:=by
 show qex (qfw P ⟨d,.extract x ix,0,"",#[],none⟩ s) K=_;rw[qba];rfl
@[simp] theorem qyL (x:Operand) (ty:Nat):qbh P (.call ⟨.builtin .len,#[x],#[ty]⟩) d s K=qc7 (qpk P ty (opd s.t x)) d s K:=by
 show qex (qfw P ⟨d,.call ⟨.builtin .len,#[x],#[ty]⟩,0,"",#[],none⟩ s) K=_;rw[qba];rfl
def qxh (x y:AV):Option (Prop×AV) :=
 match x,y with
 | .int k m,.int _ n=>some (True,.int k (if n<m then n else m))
 | _,_=>none
@[simp] theorem qp6 (x y:Operand) (tys:Array Nat):qbh P (.call ⟨.builtin .min,#[x,y],tys⟩) d s K=qc7 (qxh (opd s.t x) (opd s.t y)) d s K:=by
 show qex (qfw P ⟨d,.call ⟨.builtin .min,#[x,y],tys⟩,0,"",#[],none⟩ s) K=_;rw[qba];rfl
@[simp] theorem qvN (ty:Nat):qbh P (.alloc ty) (some k) s K=qex (qeo P s k ty) K:=rfl
@[simp] theorem qyN (ty:Nat) (x:Operand):qbh P (.box ty x) (some k) s K=qex (qkB P s k ty (opd s.t x)) K:=rfl
@[simp] theorem qpA (ty len:Nat) (parts:Array (Nat×Operand)):qbh P (.buildSlice ty len parts) (some k) s K=qex (qbu P s k ty len (parts.toList.map fun x=>(x.1,opd s.t x.2))) K:=rfl
@[simp] theorem qp7 (ty:Nat) (x y:Operand):qbh P (.makeSlice ty x y) (some k) s K=qex (qfq P s k ty (opd s.t x) (opd s.t y)) K:=rfl
@[simp] theorem qvH (ty:Nat) (x y:Operand):qbh P (.store ty x y) none s K=qex (qfJ P s ty (opd s.t x) (opd s.t y)) K:=rfl
@[simp] theorem qud (ty xt:Nat) (x y:Operand):qbh P (.call ⟨.builtin .append,#[x,y],#[ty,xt]⟩) (some k) s K=qex (qfi P s k ty xt (opd s.t x) (opd s.t y)) K:=rfl
@[simp] theorem qyg (ty xt:Nat) (y:AV):qfi P s k ty xt .nils y=qb7 P s k ty xt .nils y:=rfl
@[simp] theorem qBB (ty xt id e len:Nat) (y:AV):qfi P s k ty xt (.sl id e len) y=qb7 P s k ty xt (.sl id e len) y:=rfl
@[simp] theorem qtr (ty xt id e len cap:Nat) (kk:IntKind) (n:Int):qfi P s k ty xt (.slc id e len cap) (.int kk n)=if 0≤n then qdx P s k ty xt id e len cap n.toNat else none:=rfl
@[simp] theorem quH (ty xt id e len cap i2 e2 l2:Nat):qfi P s k ty xt (.slc id e len cap) (.sl i2 e2 l2)=qcH P s k ty xt id e len cap (.sl i2 e2 l2):=rfl
@[simp] theorem qtp (ty xt id e len cap i2 e2 l2 c2:Nat):qfi P s k ty xt (.slc id e len cap) (.slc i2 e2 l2 c2)=qcH P s k ty xt id e len cap (.slc i2 e2 l2 c2):=rfl
@[simp] theorem qtq (ty xt id e len cap sz:Nat) (els:List (List AV)):qfi P s k ty xt (.slc id e len cap) (.lst sz els)=qcH P s k ty xt id e len cap (.lst sz els):=rfl
@[simp] theorem qAm (ty xt sz:Nat) (els:List (List AV)) (y:AV):qfi P s k ty xt (.lst sz els) y=qb7 P s k ty xt (.lst sz els) y:=rfl
@[simp] theorem qx3 (ty xt:Nat) (x y:Operand):qbh P (.call ⟨.builtin .copy,#[x,y],#[ty,xt]⟩) d s K=qex (qgd P s d ty (opd s.t x) (opd s.t y)) K:=rfl
@[simp] theorem qvK (ty:Nat) (x:Operand):qbh P (.call ⟨.builtin .clear,#[x],#[ty]⟩) none s K=qex (qen P s ty (opd s.t x)) K:=rfl
@[simp] theorem qyM (x:Operand) (ty:Nat):qbh P (.call ⟨.builtin .cap,#[x],#[ty]⟩) d s K=qc7 (qrK P ty (opd s.t x)) d s K:=by
 show qex (qfw P ⟨d,.call ⟨.builtin .cap,#[x],#[ty]⟩,0,"",#[],none⟩ s) K=_;rw[qba];rfl
@[simp] theorem qub (ty:Nat) (x m:Operand) (lo hi:Option Operand):qbh P (.slice ty x lo hi (some m)) d s K=qc7 (qfa P s.h ty (opd s.t x) (lo.map (opd s.t)) (hi.map (opd s.t)) (opd s.t m)) d s K:=by
 show qex (qfw P ⟨d,.slice ty x lo hi (some m),0,"",#[],none⟩ s) K=_;rw[qba];rfl
@[simp] theorem qx4 (x:Operand) (args:Array Operand) (tys:Array Nat):qbh P (.call ⟨.value x,args,tys⟩) d s K=qme P (opd s.t x) (args.toList.map (opd s.t)) d s K:=rfl
@[simp] theorem qAJ (f:Nat) (cap args:List AV):qme P (.fn f cap) args d s K=qi8 P f (args++cap) d s K:=rfl
attribute [simp] qgd qen qrK qfa qcH qdx qvS qhd qfr qcg qcu qcn qgV qiJ qpk qto qtn qpm qyf qC0 qxi qxh qdN qfK qeo qkB qbu qfq qfJ qb7 qgX qd8 qbg TD.agg qe4 qip qlZ qkc qkd qaW bOf isC splice
@[simp] theorem qBj (k:IntKind) (n:Int):qda (.int k n)=true:=rfl
@[simp] theorem qzG (b:Bool):qda (.bool b)=true:=rfl
@[simp] theorem qBf (b:List UInt8):qda (.str b)=true:=rfl
@[simp] theorem qzE:qda .nilp=true:=rfl
@[simp] theorem qzD:qda .nils=true:=rfl
@[simp] theorem qzF:qda .nili=true:=rfl
@[simp] theorem qBk:qda .ifc=true:=rfl
@[simp] theorem qBh (a b c:Nat):qda (.ptr a b c)=true:=rfl
@[simp] theorem qCv (a b c:Nat):qda (.sl a b c)=true:=rfl
@[simp] theorem qBg (a b c e:Nat):qda (.slc a b c e)=true:=rfl
@[simp] theorem qBi (a:Nat) (b:List (List AV)):qda (.lst a b)=true:=rfl
@[simp] theorem qBl (b:List AV):qda (.elm b)=true:=rfl
@[simp] theorem qCw (f:Nat) (b:List AV):qda (.fn f b)=true:=rfl
attribute [simp] ql1 qfp qoT quC
@[simp] theorem qAs:qi5 P K [] s=K s:=rfl
@[simp] theorem qyi (o:DOper) (r:List DOper):qi5 P K (o::r) s=(frA P o.fr s∧qfm P o s (qi5 P K r)):=rfl
@[simp] theorem qCV:frA P [] s=True:=rfl
@[simp] theorem qBz (k:Nat) (op:Op) (r:List (Nat×Op)):frA P ((k,op)::r) s=((qex (opS P ⟨some k,op,0,"",#[],none⟩ s) (fun _=>True)∧s.h k=none)∧frA P r s):=rfl
@[simp] theorem qzB (ty:Nat):opS P ⟨some k,.alloc ty,0,"",#[],none⟩ s=qeo P s k ty:=rfl
@[simp] theorem qCu (ty:Nat) (x:Operand):opS P ⟨some k,.box ty x,0,"",#[],none⟩ s=qkB P s k ty (opd s.t x):=rfl
@[simp] theorem qsg (ty len:Nat) (parts:Array (Nat×Operand)):opS P ⟨some k,.buildSlice ty len parts,0,"",#[],none⟩ s=qbu P s k ty len (parts.toList.map fun x=>(x.1,opd s.t x.2)):=rfl
@[simp] theorem qsU (ty:Nat) (x y:Operand):opS P ⟨some k,.makeSlice ty x y,0,"",#[],none⟩ s=qfq P s k ty (opd s.t x) (opd s.t y):=rfl
@[simp] theorem qw8 (op:Op) (rd av:List Nat) (fr:List (Nat×Op)):qfm P ⟨⟨none,d,op⟩,rd,av,fr⟩ s K=qb5 P rd av op d s K:=rfl
def gdD (P:Program) (g:Nat) (want:Bool) (rd av:List Nat) (op:Op) (d:Option Nat) (s:S) (K:S→Prop):AV→Prop
 | .bool b=>(b=want→qb5 P rd av op d ⟨upd s.t g (.bool want),s.h,s.u⟩ K)∧(b=(!want)→K ⟨qcw (upd s.t g (.bool (!want))) d (.tup []),s.h,s.u⟩)
 | .tup _=>K ⟨qcw s.t d (.tup []),s.h,s.u⟩
 | _=>False
@[simp] theorem qw7 (g:Nat) (want:Bool) (op:Op) (rd av:List Nat) (fr:List (Nat×Op)):qfm P ⟨⟨some (g,want),d,op⟩,rd,av,fr⟩ s K=gdD P g want rd av op d s K (s.t g):=by
 simp only[qfm,gdD];cases hv:s.t g <;> try rfl
 rename_i b;simp only;cases b <;> cases want <;> simp[qnr _ _ _ hv]
@[simp] theorem qDn (g:Nat) (op:Op) (rd av:List Nat):gdD P g true rd av op d s K (.bool true)=qb5 P rd av op d ⟨upd s.t g (.bool true),s.h,s.u⟩ K:=by simp[gdD]
@[simp] theorem qDq (g:Nat) (op:Op) (rd av:List Nat):gdD P g false rd av op d s K (.bool false)=qb5 P rd av op d ⟨upd s.t g (.bool false),s.h,s.u⟩ K:=by simp[gdD]
@[simp] theorem qDo (g:Nat) (op:Op) (rd av:List Nat):gdD P g true rd av op d s K (.bool false)=K ⟨qcw (upd s.t g (.bool false)) d (.tup []),s.h,s.u⟩:=by simp[gdD]
@[simp] theorem qDp (g:Nat) (op:Op) (rd av:List Nat):gdD P g false rd av op d s K (.bool true)=K ⟨qcw (upd s.t g (.bool true)) d (.tup []),s.h,s.u⟩:=by simp[gdD]
@[simp low] theorem qBs (g:Nat) (want b:Bool) (op:Op) (rd av:List Nat):gdD P g want rd av op d s K (.bool b)=((b=want→qb5 P rd av op d ⟨upd s.t g (.bool want),s.h,s.u⟩ K)∧(b=(!want)→K ⟨qcw (upd s.t g (.bool (!want))) d (.tup []),s.h,s.u⟩)):=rfl
@[simp] theorem qCS (g:Nat) (want:Bool) (l:List AV) (op:Op) (rd av:List Nat):gdD P g want rd av op d s K (.tup l)=K ⟨qcw s.t d (.tup []),s.h,s.u⟩:=rfl
@[simp] theorem qAX (rd:List Nat) (h:Hp) (id:Nat):qqw rd h id=if rd.contains id then h id else none:=rfl
attribute [simp] qgq
@[simp] theorem qxW (rd av:List Nat) (ty:Nat) (a:Operand):qb5 P rd av (.load ty a) d s K=qc7 (qfr P (qqw rd s.h) ty (opd s.t a)) d s K:=by
 show qc7 _ d s K=_;rfl
@[simp] theorem qvE (rd av:List Nat) (ty:Nat) (parts:Array (Nat×Operand)):qb5 P rd av (.build ty parts) d s K=qc7 (qgX P ty (parts.toList.map fun x=>(x.1,opd s.t x.2))) d s K:=by
 show qc7 _ d s K=_;rfl
@[simp] theorem qxU (rd av:List Nat) (c a b:Operand):qb5 P rd av (.pick c a b) d s K=qc7 (qrJ (opd s.t c) (opd s.t a) (opd s.t b)) d s K:=by
 show qc7 _ d s K=_;rfl
@[simp] theorem qsb (rd av:List Nat) (x:Operand):qb5 P rd av (.nilCheck x) d s K=qc7 (qC0 (opd s.t x)) d s K:=by
 show qc7 _ d s K=_;rfl
@[simp] theorem qvF (rd av:List Nat) (op:BinOp) (xt:Nat) (x y:Operand) (yt:Nat):qb5 P rd av (.binOp op xt x y yt) d s K=qc7 (qpm P op xt x y (opd s.t x) (opd s.t y)) d s K:=by
 show qc7 _ d s K=_;rfl
@[simp] theorem qxT (rd av:List Nat) (op:UnOp) (xt:Nat) (x:Operand):qb5 P rd av (.unOp op xt x) d s K=qc7 (qyf op (opd s.t x)) d s K:=by
 show qc7 _ d s K=_;rfl
@[simp] theorem qsx (rd av:List Nat) (a b:Nat) (x:Operand):qb5 P rd av (.convert a b x) d s K=qc7 (qdN P (qqw rd s.h) a b (opd s.t x)) d s K:=by
 show qc7 _ d s K=_;rfl
@[simp] theorem qvC (rd av:List Nat) (ty:Nat) (x:Operand) (lo hi:Option Operand):qb5 P rd av (.slice ty x lo hi none) d s K=qc7 (qcn P (qqw rd s.h) ty (opd s.t x) (lo.map (opd s.t)) (hi.map (opd s.t))) d s K:=by
 show qc7 _ d s K=_;rfl
@[simp] theorem qp5 (rd av:List Nat) (ty:Nat) (x:Operand) (f:Nat):qb5 P rd av (.fieldAddr ty x f) d s K=qc7 (qcg P ty f (opd s.t x)) d s K:=by
 show qc7 _ d s K=_;rfl
@[simp] theorem qp4 (rd av:List Nat) (ty:Nat) (x i:Operand):qb5 P rd av (.indexAddr ty x i) d s K=qc7 (qcu P (qqw rd s.h) ty (opd s.t x) (opd s.t i)) d s K:=by
 show qc7 _ d s K=_;rfl
@[simp] theorem qvD (rd av:List Nat) (ty:Nat) (x i:Operand):qb5 P rd av (.index ty x i) d s K=qc7 (qgV P ty (opd s.t x) (opd s.t i)) d s K:=by
 show qc7 _ d s K=_;rfl
@[simp] theorem qsw (rd av:List Nat) (x:Operand) (ix:Nat):qb5 P rd av (.extract x ix) d s K=qc7 (qxi (opd s.t x) ix) d s K:=by
 show qc7 _ d s K=_;rfl
@[simp] theorem qyJ (rd av:List Nat) (x:Operand) (ty:Nat):qb5 P rd av (.call ⟨.builtin .len,#[x],#[ty]⟩) d s K=qc7 (qpk P ty (opd s.t x)) d s K:=by
 show qc7 _ d s K=_;rfl
@[simp] theorem qxV (rd av:List Nat) (x:Operand):qb5 P rd av (.move x) d s K=K ⟨qcw s.t d (opd s.t x),s.h,s.u⟩:=by
 show qc7 (some (True,opd s.t x)) d s K=_;simp[qc7]
@[simp] theorem qt9 (rd av:List Nat) (x:Operand):qb5 P rd av (.assign x) d s K=K ⟨qcw s.t d (opd s.t x),s.h,s.u⟩:=by
 show qc7 (some (True,opd s.t x)) d s K=_;simp[qc7]
@[simp] theorem qvG (rd av:List Nat) (ty:Nat):qb5 P rd av (.alloc ty) d s K=qbh P (.alloc ty) d s (fun s'=>qgq av s.h s'.h∧K s'):=rfl
@[simp] theorem qyK (rd av:List Nat) (ty:Nat) (x:Operand):qb5 P rd av (.box ty x) d s K=qbh P (.box ty x) d s (fun s'=>qgq av s.h s'.h∧K s'):=rfl
@[simp] theorem qpz (rd av:List Nat) (ty len:Nat) (parts:Array (Nat×Operand)):qb5 P rd av (.buildSlice ty len parts) d s K=qbh P (.buildSlice ty len parts) d s (fun s'=>qgq av s.h s'.h∧K s'):=rfl
@[simp] theorem qp3 (rd av:List Nat) (ty:Nat) (x y:Operand):qb5 P rd av (.makeSlice ty x y) d s K=qbh P (.makeSlice ty x y) d s (fun s'=>qgq av s.h s'.h∧K s'):=rfl
@[simp] theorem qvB (rd av:List Nat) (ty:Nat) (x y:Operand):qb5 P rd av (.store ty x y) d s K=qbh P (.store ty x y) d s (fun s'=>qgq av s.h s'.h∧K s'):=rfl
@[simp] theorem qua (av:List Nat) (args:Array Operand) (tys:Array Nat):qb5 P [] av (.call ⟨.builtin .append,args,tys⟩) d s K=qbh P (.call ⟨.builtin .append,args,tys⟩) d s (fun s'=>qgq av s.h s'.h∧K s'):=by
 show((rdG []=true→_)∧_)=_;simp[rdG]
def qBt (rd:List Nat) (x y:AV):Prop:=(match x with | .sl id _ _=>(rd.drop 1).contains id=true | _=>False)∧(match y with | .lst _ _=>True | _=>False)
@[simp] theorem qCT (rd:List Nat) (id e len sz:Nat) (els:List (List AV)):qBt rd (.sl id e len) (.lst sz els)=((rd.drop 1).contains id=true):=by simp[qBt]
@[simp] theorem qsy (rd av:List Nat) (x y:Operand) (tys:Array Nat):qb5 P (0::rd) av (.call ⟨.builtin .append,#[x,y],tys⟩) d s K=(qBt (0::rd) (opd s.t x) (opd s.t y)∧qbh P (.call ⟨.builtin .append,#[x,y],tys⟩) d s (fun s'=>qgq av s.h s'.h∧K s')):=by
 have h:gOk (0::rd) (.call ⟨.builtin .append,#[x,y],tys⟩) s.t=qBt (0::rd) (opd s.t x) (opd s.t y):=rfl;show((rdG (0::rd)=true→gOk (0::rd) (.call ⟨.builtin .append,#[x,y],tys⟩) s.t)∧_)=_;rw[h];simp only[rdG,true_implies]
@[simp] theorem qxX (rd av:List Nat) (args:Array Operand) (tys:Array Nat):qb5 P rd av (.call ⟨.builtin .copy,args,tys⟩) d s K=qbh P (.call ⟨.builtin .copy,args,tys⟩) d s (fun s'=>qgq av s.h s'.h∧K s'):=rfl
@[simp] theorem qxY (rd av:List Nat) (x:Operand) (args:Array Operand) (tys:Array Nat):qb5 P rd av (.call ⟨.value x,args,tys⟩) d s K=qbh P (.call ⟨.value x,args,tys⟩) d s (fun s'=>qgq av s.h s'.h∧K s'):=rfl
def qAN (op:BinOp) (k:IntKind) (x y:Int):Int :=
 match qjN op k x y with
 | some n=>n
 | none=>0
@[simp] theorem qym (k:IntKind) (x y:Int):qjN .xor k x y=some (qAN .xor k x y):=rfl
@[simp] theorem qyn (k:IntKind) (x y:Int):qjN .and k x y=some (qAN .and k x y):=rfl
@[simp] theorem qAM (k:IntKind) (x y:Int):qjN .or k x y=some (qAN .or k x y):=rfl
attribute [simp] ren qb3 rho qmG
theorem qk6 (N:S→Prop) (Q:Exit→S→Prop):qfg N Q .normal s=N s:=rfl
theorem qoK (N:S→Prop) (Q:Exit→S→Prop) (i:Nat):qfg N Q (.exit i) s=Q (.exit i) s:=rfl
theorem qpX (N:S→Prop) (Q:Exit→S→Prop):qfg N Q .ret s=Q .ret s:=rfl
theorem qkU (i:Nat) (Q:Exit→S→Prop):qfu i Q .normal s=Q .normal s:=rfl
theorem qpq (i:Nat) (Q:Exit→S→Prop):qfu i Q .ret s=Q .ret s:=rfl
theorem qnh (i j:Nat) (Q:Exit→S→Prop):qfu i Q (.exit j) s=if j=i then Q .normal s else Q (.exit j) s:=rfl
attribute [simp] qk6 qoK qpX qkU qpq qnh
end
end Go.Av
end
