/- Lemmas for the proof, no statement of the seat; no conditions. -/
import Derived.Test.YthiidgicibfbjaaGreatDoorLayAE
import Derived.Lib.Overlaps
set_option linter.unusedSimpArgs false
set_option linter.unusedVariables false
set_option linter.unnecessarySimpa false
set_option maxRecDepth 100000
set_option maxHeartbeats 400000
section
namespace Go.Av
open Go.RowKit
def qp1 (v:AV) (x y:Prop):Prop :=
 match v with
 | .bool b=>(b=true→x)∧(b=false→y)
 | .anyb=>x∧y
 | _=>False
def ev (P:Program) (E:Env):ACode→(Exit→S→Prop)→S→Prop
 | .skip,Q,s=>Q .normal s
 | .reg l,Q,s=>qs1 P (Q .normal) l s
 | .draw l,Q,s=>P.follows .mixedOrders=true∧qjp P (Q .normal) l s
 | .seq a b,Q,s=>ev P E a (qfv (ev P E b Q) Q) s
 | .cond c a b,Q,s=>qp1 (opd s.t c) (ev P E a Q s) (ev P E b Q s)
 | .block id a,Q,s=>ev P E a (qfK id Q) s
 | .exit id,Q,s=>Q (.exit id) s
 | .ret,Q,s=>Q .ret s
 | .loop a,Q,s=>VA P E (.loop a) s Q
 | .rng g p q a,Q,s=>VA P E (.rng g p q a) s Q
section
variable {P:Program} {E:Env} {s:S} {Q:Exit→S→Prop}
theorem qfe {op:Op} {d:Option Nat} {K K':S→Prop} (hk:∀ s,K s→K' s) (h:qbs P op d s K):qbs P op d s K':=by
 unfold qbs at *
 split at h
 ·unfold qmK at *
  split at h
  ·obtain⟨h1,hv,pl,argsC,L,R,h3,h4,h5⟩:=h;refine⟨h1,hv,pl,argsC,L,R,h3,h4,fun r L' hr=>?_⟩;obtain⟨φ,h6,h7⟩:=h5 r L' hr;exact⟨φ,h6,hk _ h7⟩
  ·exact h
 ·unfold qeH at *
  split at h
  ·exact⟨h.1,hk _ h.2⟩
  ·exact h
theorem qns {o:AOper} {K K':S→Prop} (hk:∀ s,K s→K' s) (h:qfB P o s K):qfB P o s K':=by
 unfold qfB at *
 split at h
 ·exact qfe hk h
 ·split at h
  ·exact⟨fun e=>qfe hk (h.1 e),fun e=>hk _ (h.2 e)⟩
  ·exact hk _ h
  ·exact h
theorem qjy {N N':S→Prop} {Q Q':Exit→S→Prop} (hn:∀ s,N s→N' s) (hq:∀ e s,Q e s→Q' e s):∀ e s,qfv N Q e s→qfv N' Q' e s:=by
 intro e s h;cases e <;> first | exact hn _ h | exact hq _ _ h
theorem qbE:∀ (a:ACode) {Q:Exit→S→Prop} {s:S},ev P E a Q s→VA P E a s Q
 | .skip,Q,s,h=>qv7 h
 | .reg l,Q,s,h=>qzp h
 | .draw l,Q,s,h=>qwa h.1 h.2
 | .seq a b,Q,s,h=>qju ((qbE a h).mono fun e s' h'=>by
   cases e with
   | normal=>exact qbE b h'
   | _=>exact h')
 | .cond c a b,Q,s,h=>by
   simp only[ev]at h;unfold qp1 at h;split at h
   ·rename_i bb hb;exact qwc hb (fun e=>qbE a (h.1 e)) (fun e=>qbE b (h.2 e))
   ·rename_i hb;exact qm1 hb (qbE a h.1) (qbE b h.2)
   ·cases h
 | .block id a,Q,s,h=>qs8 (qbE a h)
 | .exit id,Q,s,h=>qv9 h
 | .ret,Q,s,h=>qzo h
 | .loop a,Q,s,h=>h
 | .rng g p q a,Q,s,h=>h
theorem qlS {K K':S→Prop} (hk:∀ s,K s→K' s):∀ (l:List AOper) (s:S),qs1 P K l s→qs1 P K' l s
 | [],s,h=>hk s h
 | o::r,s,h=>qns (fun s' h'=>qlS hk r s' h') h
theorem qnq {o:DOper} {K K':S→Prop} (hk:∀ s,K s→K' s) (h:qfA P o s K):qfA P o s K':=by
 have hst:qca P o.rd o.av o.o.op o.o.d s K→qca P o.rd o.av o.o.op o.o.d s K':=fun h=>by
  unfold qca at *
  split at h
  ·rename_i hv;rw[if_pos hv];unfold qdi at *
   split at h
   ·exact⟨h.1,hk _ h.2⟩
   ·exact h
  ·rename_i hv;rw[if_neg hv];split at h
   ·exact⟨h.1,qfe (fun s' h=>⟨h.1,hk _ h.2⟩) h.2⟩
   ·exact qfe (fun s' h=>⟨h.1,hk _ h.2⟩) h
 unfold qfA at *
 split at h
 ·exact hst h
 ·split at h
  ·exact⟨fun e=>hst (h.1 e),fun e=>hk _ (h.2 e)⟩
  ·exact hk _ h
  ·exact h
theorem qjZ {K K':S→Prop} (hk:∀ s,K s→K' s):∀ (l:List DOper) (s:S),qjp P K l s→qjp P K' l s
 | [],s,h=>hk s h
 | o::r,s,h=>⟨h.1,qnq (fun s' h'=>qjZ hk r s' h') h.2⟩
theorem qe9:∀ (a:ACode) {Q Q':Exit→S→Prop} {s:S},(∀ e s,Q e s→Q' e s)→ev P E a Q s→ev P E a Q' s
 | .skip,Q,Q',s,hq,h=>hq _ _ h
 | .reg l,Q,Q',s,hq,h=>qlS (hq .normal) l s h
 | .draw l,Q,Q',s,hq,h=>⟨h.1,qjZ (hq .normal) l s h.2⟩
 | .seq a b,Q,Q',s,hq,h=>qe9 a (qjy (fun s' h'=>qe9 b hq h') hq) h
 | .cond c a b,Q,Q',s,hq,h=>by
   simp only[ev]at *
   unfold qp1 at *
   split at h
   ·exact⟨fun e=>qe9 a hq (h.1 e),fun e=>qe9 b hq (h.2 e)⟩
   ·exact⟨qe9 a hq h.1,qe9 b hq h.2⟩
   ·exact h
 | .block id a,Q,Q',s,hq,h=>qe9 a (fun e s h=>by
   cases e with
   | exit j =>
    simp only[qfK]at *
    split at h
    ·rename_i hj;rw[if_pos hj];exact hq _ _ h
    ·rename_i hj;rw[if_neg hj];exact hq _ _ h
   | _=>exact hq _ _ h) h
 | .exit id,Q,Q',s,hq,h=>hq _ _ h
 | .ret,Q,Q',s,hq,h=>hq _ _ h
 | .loop a,Q,Q',s,hq,h=>VA.mono h hq
 | .rng g p q a,Q,Q',s,hq,h=>VA.mono h hq
@[simp] theorem qEl:ev P E .skip Q s=Q .normal s:=rfl
@[simp] theorem qE4 (l:List AOper):ev P E (.reg l) Q s=qs1 P (Q .normal) l s:=rfl
@[simp] theorem qEn (l:List DOper):ev P E (.draw l) Q s=(P.follows .mixedOrders=true∧qjp P (Q .normal) l s):=rfl
@[simp] theorem qE2 (a b:ACode):ev P E (.seq a b) Q s=ev P E a (qfv (ev P E b Q) Q) s:=rfl
@[simp] theorem qEo (c:Operand) (a b:ACode):ev P E (.cond c a b) Q s=qp1 (opd s.t c) (ev P E a Q s) (ev P E b Q s):=rfl
@[simp] theorem qBT (x y:Prop):qp1 .anyb x y=(x∧y):=rfl
@[simp] theorem qze (b:Bool) (x y:Prop):qp1 (.bool b) x y=((b=true→x)∧(b=false→y)):=rfl
@[simp] theorem qCS (id:Nat) (a:ACode):ev P E (.block id a) Q s=ev P E a (qfK id Q) s:=rfl
@[simp] theorem qEm (id:Nat):ev P E (.exit id) Q s=Q (.exit id) s:=rfl
@[simp] theorem qE3:ev P E .ret Q s=Q .ret s:=rfl
def qae (E:Env) (φ:List (Nat×Nat)) (s:S):Prop :=
 (∀ p∈φ,(s.h p.1).isSome=true)∧(φ.map (·.2)).Nodup∧(∀ p∈φ,p.2∈E.ins→p.1=p.2)∧(φ.map (·.1)).Nodup
def qBs (E:Env) (live:List Nat) (I:Nat→S→Prop) (k:Nat) (s:S):Prop:=∃ φ,qae E φ s∧I k (qao E.ins live φ s)
theorem qx8 {a:ACode} (live:List Nat) (I:Nat→S→Prop) (k:Nat) (h0:qBs E live I k s)
  (round:∀ k s,I k s→ev P E a (qfv (fun s'=>∃ k',k'<k∧qBs E live I k' s') Q) s):ev P E (.loop a) Q s:=by
 obtain⟨φ,hok,hI⟩:=h0;show VA P E (.loop a) s Q;refine qqq (qkg live φ hok.1 hok.2.1 hok.2.2.1 hok.2.2.2) (qv8 I k hI fun k s hI=>qqr ?_);refine(qbE a (round k s hI)).mono fun e s' h=>?_;cases e with
 | normal =>
  obtain⟨k',hk,φ,hok,hI⟩:=h;exact⟨_,qkg live φ hok.1 hok.2.1 hok.2.2.1 hok.2.2.2,k',hk,hI⟩
 | _=>exact⟨_,.refl,h⟩
def qrK {X:Type} (E:Env) (live:List Nat) (st0:X→S) (meas:X→Nat) (good:X→Prop) (x:X) (s':S):Prop :=
 ∃ x',meas x'<meas x∧good x'∧∃ φ,qae E φ s'∧qao E.ins live φ s'=st0 x'
theorem qau {X:Type} {live:List Nat} {st0:X→S} {meas:X→Nat} {good:X→Prop} {x:X} (x':X) (h1:meas x'<meas x) (h2:good x') (φ:List (Nat×Nat)) (h3:qae E φ s) (h4:qao E.ins live φ s=st0 x'):qrK E live st0 meas good x s:=⟨x',h1,h2,φ,h3,h4⟩
theorem qaR {a:ACode} {X:Type} (live:List Nat) (st0:X→S) (meas:X→Nat) (good:X→Prop) (x0:X) (h0:good x0∧∃ φ,qae E φ s∧qao E.ins live φ s=st0 x0)
  (round:∀ x,good x→ev P E a (qfv (qrK E live st0 meas good x) Q) (st0 x)):ev P E (.loop a) Q s:=by
 obtain⟨hg,φ,hok,he⟩:=h0;refine qx8 live (fun k st=>∃ x,k=meas x∧good x∧st=st0 x) (meas x0) ⟨φ,hok,x0,rfl,hg,he⟩ ?_;rintro k st ⟨x,rfl,hx,rfl⟩;have:=round x hx;refine qe9 a (qjy (fun s'=>?_) fun _ _ h=>h) this;rintro⟨x',hm,hg',φ,hok,he⟩;exact⟨_,hm,φ,hok,x',rfl,hg',he⟩
def qAp (h:Hp) (R:AV→List (Nat×Ob)→Prop):Option (Prop×List AV)→Prop
 | some (p,vs)=>p∧∃ L',qvv h L'∧R (qpz vs) L'
 | none=>False
@[simp] theorem qAo (h:Hp) (R:AV→List (Nat×Ob)→Prop) (p:Prop) (vs:List AV):qAp h R (some (p,vs))=(p∧∃ L',qvv h L'∧R (qpz vs) L'):=rfl
theorem qrm (rs:List ResultVar) (R:AV→List (Nat×Ob)→Prop) {e:Exit} (he:e=.normal∨e=.ret):qof P rs R e s=qAp s.h R (qfD P s rs):=by
 unfold qof qAp;cases qfD P s rs with
 | none=>simp
 | some r =>
  obtain⟨p,vs⟩:=r;simp only[eq_iff_iff];constructor
  ·rintro⟨_,p',vs',h1,h2,h3⟩;injection h1 with h1;injection h1 with e1 e2;subst e1;subst e2;exact⟨h2,h3⟩
  ·rintro⟨h2,h3⟩;exact⟨he,_,_,rfl,h2,h3⟩
@[simp] theorem qCj (rs:List ResultVar) (R:AV→List (Nat×Ob)→Prop):qof P rs R .ret s=qAp s.h R (qfD P s rs):=qrm rs R (.inr rfl)
@[simp] theorem qxh (rs:List ResultVar) (R:AV→List (Nat×Ob)→Prop):qof P rs R .normal s=qAp s.h R (qfD P s rs):=qrm rs R (.inl rfl)
theorem Us.app_nil (u:Us):Us.app [] u=u:=by
 funext x;exact propext ⟨fun h=>h.elim (fun h=>by simp at h) id,.inr⟩
theorem qtC (h:Hp):qmW h []=h:=rfl
mutual
theorem qAQ {h:Hp} {ids:List Nat} {ρ:Nat→Option Plc}:∀ (a:AV),clA a=true→mtA h ids ρ a a
 | .top,_=>by simp[mtA]
 | .int _ _,_=>by simp[mtA]
 | .bool _,_=>by simp[mtA]
 | .str _,_=>by simp[mtA]
 | .nilp,_=>by simp[mtA]
 | .nils,_=>by simp[mtA]
 | .nili,_=>by simp[mtA]
 | .ifc,_=>by simp[mtA]
 | .anyb,_=>by simp[mtA]
 | .lst _ _,_=>by simp[mtA,qb5]
 | .elm _,_=>by simp[mtA]
 | .ptr _ _ _,hc=>by simp[clA]at hc
 | .sl _ _ _,hc=>by simp[clA]at hc
 | .slc _ _ _ _,hc=>by simp[clA]at hc
 | .bsl _ _ _ _ _,hc=>by simp[clA]at hc
 | .agg cs,hc=>by simp only[mtA];exact qhz cs (by simpa [clA]using hc)
 | .tup cs,hc=>by simp only[mtA];exact qhz cs (by simpa [clA]using hc)
 | .fn _ cs,hc=>by simp only[mtA];exact⟨trivial,qhz cs (by simpa [clA]using hc)⟩
theorem qhz {h:Hp} {ids:List Nat} {ρ:Nat→Option Plc}:∀ (l:List AV),clL l=true→mtL h ids ρ l l
 | [],_=>by simp[mtL]
 | a::r,hc=>by
  simp only[clL,Bool.and_eq_true]at hc;simp only[mtL];exact⟨qAQ a hc.1,qhz r hc.2⟩
end
theorem qdU {f:Nat} {args:List AV} {R:AV→Prop} {dst:Option Nat} {K:S→Prop} (en:qb1 P f=true) (hC:ACall P f args [] (fun r L'=>R r∧clA r=true∧L'=[])) (hfl:clL args=true)
  (hK:∀ v,R v→K ⟨qcC s.t dst v,s.h,s.u⟩):qjs P f args dst s K:=by
 refine⟨en,fun _=>none,[],args,[],_,⟨.inr rfl,qhz _ hfl,qGI,by simp,by simp,by simp⟩,hC,?_⟩;rintro r L' ⟨hr,hv,rfl⟩;refine⟨[],⟨.inl rfl,qGI,qGI,by simp,by simp,by simp⟩,?_⟩;simp only[qaf,qoo,qtC,qHF,Us.app_nil,renL_closed _ _ hv];exact hK r hr
theorem qaj {f:Nat} {args:List AV} {v:AV} {dst:Option Nat} {K:S→Prop} (en:qb1 P f=true) (hC:ACall P f args [] (fun r L'=>r=v∧L'=[])) (hfl:clL args=true) (hv:clA v=true)
  (hK:K ⟨qcC s.t dst v,s.h,s.u⟩):qjs P f args dst s K :=
 qdU (R:=fun r=>r=v) en (hC.mono fun r L' h=>⟨h.1,by rw[h.1];exact hv,h.2⟩) hfl fun u hu=>by rw[hu];exact hK
end
end Go.Av
end
section
namespace Go.Av
open Go.RowKit
@[simp] theorem qCk (ρ:Nat→Option Plc) (sz:Nat) (els:List (List AV)):qbH ρ ⟨sz,els⟩=⟨sz,els.map (qb6 ρ)⟩:=rfl
attribute [simp] qcH qgD qmW qoo qrs mtL mtA qb5 clR clL clA Plc.id noA noL flA
@[simp] theorem qCr (i:Nat):qou [] i=none:=rfl
def qpL (hv h:Hp) (pl:List (Nat×Plc)):List (Nat×Ob)→Prop
 | []=>True
 | (c,o)::r=>(match qcH pl c with | some p=>qpK hv h (pl.map (·.2.id)) (qcH pl) o p | none=>False)∧qpL hv h pl r
theorem qee {hv h:Hp} {pl:List (Nat×Plc)}:∀ {L:List (Nat×Ob)},qpL hv h pl L→∀ x,x∈L→∃ p,qcH pl x.1=some p∧qpK hv h (pl.map (·.2.id)) (qcH pl) x.2 p
 | [],_,x,hx=>by simp at hx
 | (c,o)::r,hi,x,hx=>by
  simp only[qHq]at hx;rcases hx with rfl | hx
  ·have:=hi.1;split at this
   ·rename_i p hp;exact⟨p,hp,this⟩
   ·exact this.elim
  ·exact qee hi.2 x hx
structure OutOk (s:S) (pl:List (Nat×Plc)) (φ:List (Nat×Nat)) (L':List (Nat×Ob)):Prop where
 nod:(L'.map (·.1)).Nodup
 new:(φ.map (·.2)).Nodup
 unu:∀ x,x∈φ→x.2 ∉ s.u
 kin:∀ x,x∈L'→(qcH pl x.1).isSome=true∨(qou φ x.1).isSome=true
 sub:∀ x,x∈pl→match x.2 with
  | .sub _ _ _ n=>∃ cs,qaQ L' x.1=some ⟨n,[cs]⟩
  | .whole _=>True
section
variable {P:Program} {s:S}
theorem qac (pl:List (Nat×Plc)) {f:Nat} {args argsC:List AV} {L:List (Nat×Ob)} {R:AV→List (Nat×Ob)→Prop} {dst:Option Nat} {K:S→Prop} (en:qb1 P f=true) (hC:ACall P f argsC L R)
  (h1:mtL (fun _=>none) (pl.map (·.2.id)) (qcH pl) argsC args) (h2:(pl.map (·.2.id)).Nodup) (h3:qpL (fun _=>none) s.h pl L) (h4:∀ x,x∈pl→(qaQ L x.1).isSome=true) (h5:∀ x,x∈pl→(s.h x.2.id).isSome=true)
  (hK:∀ r L',R r L'→∃ φ,OutOk s pl φ L'∧K (qaf s pl φ dst r L')):qjs P f args dst s K:=by
 refine⟨en,fun _=>none,pl,argsC,L,R,⟨.inr rfl,h1,h2,qee h3,h4,h5⟩,hC,fun r L' hr=>?_⟩;obtain⟨φ,ho,hk⟩:=hK r L' hr;exact⟨φ,⟨.inl rfl,ho.nod,ho.new,ho.unu,ho.kin,ho.sub⟩,hk⟩
theorem qaS (pl:List (Nat×Plc)) {f:Nat} {args argsC:List AV} {L:List (Nat×Ob)} {R:AV→List (Nat×Ob)→Prop} {dst:Option Nat} {K:S→Prop} (en:qb1 P f=true) (hC:ACall P f argsC L R)
  (h1:mtL s.h (pl.map (·.2.id)) (qcH pl) argsC args) (h2:(pl.map (·.2.id)).Nodup) (h3:qpL s.h s.h pl L) (h4:∀ x,x∈pl→(qaQ L x.1).isSome=true) (h5:∀ x,x∈pl→(s.h x.2.id).isSome=true)
  (hK:∀ r L',R r L'→noA r=true∧(∀ x,x∈L'→x.2.els.all noL=true)∧∃ φ,OutOk s pl φ L'∧K (qaf s pl φ dst r L')):qjs P f args dst s K:=by
 refine⟨en,s.h,pl,argsC,L,R,⟨.inl rfl,h1,h2,qee h3,h4,h5⟩,hC,fun r L' hr=>?_⟩;obtain⟨g1,g2,φ,ho,hk⟩:=hK r L' hr;exact⟨φ,⟨.inr ⟨g1,g2⟩,ho.nod,ho.new,ho.unu,ho.kin,ho.sub⟩,hk⟩
theorem qp7 {r:AV} {dst:Option Nat}:qaf s [] [] dst r []=⟨qcC s.t dst (ren (qgD [] []) r),s.h,s.u⟩:=by
 simp only[qaf,qoo,qmW,qHF,Us.app_nil]
theorem qc9 {f:Nat} {args argsC:List AV} {v:AV} {dst:Option Nat} {K:S→Prop} (en:qb1 P f=true) (hC:ACall P f argsC [] (fun r L'=>r=v∧L'=[])) (h1:mtL s.h [] (qcH []) argsC args) (hn:noA v=true) (hc:clA v=true)
  (hK:K ⟨qcC s.t dst v,s.h,s.u⟩):qjs P f args dst s K:=by
 refine qaS [] en hC h1 qGI trivial (by simp) (by simp) fun r L' ⟨hr,hl⟩=>?_;subst hr;subst hl;refine⟨hn,by simp,[],⟨qGI,qGI,by simp,by simp,by simp⟩,?_⟩;rw[qp7,renL_closed _ _ hc];exact hK
attribute [simp] qpL
@[simp] theorem qxL (hv h:Hp) (ids:List Nat) (ρ:Nat→Option Plc) (o:Ob) (id:Nat):qpK hv h ids ρ o (.whole id)=(∃ O,h id=some O∧O.sz=o.sz∧qrg hv ids ρ o.els O.els):=rfl
theorem qaa {hv:Hp} {ids:List Nat} {ρ:Nat→Option Plc} {els Els:List (List AV)} (h:els=Els) (hc:clR Els=true):qrg hv ids ρ els Els:=.inl ⟨h,by rw[h];exact hc⟩
@[simp] theorem qCY (pl:List (Nat×Plc)) (φ:List (Nat×Nat)) (dst:Option Nat) (r:AV) (L':List (Nat×Ob)):(qaf s pl φ dst r L').t=qcC s.t dst (ren (qgD pl φ) r):=rfl
@[simp] theorem qCZ (pl:List (Nat×Plc)) (φ:List (Nat×Nat)) (dst:Option Nat) (r:AV) (L':List (Nat×Ob)):(qaf s pl φ dst r L').h=qoo s.h (qgD pl φ) (qmW s.h pl) L':=rfl
@[simp] theorem qCX (pl:List (Nat×Plc)) (φ:List (Nat×Nat)) (dst:Option Nat) (r:AV) (L':List (Nat×Ob)):(qaf s pl φ dst r L').u=Us.app (φ.map (·.2)) s.u:=rfl
end
end Go.Av
end
section
namespace Go.Av
open Go.RowKit
section
variable {P:Program}
def qcP (o:Ob) (cap:Nat):Ob:=⟨o.sz,o.els++List.replicate (cap-o.els.length) (List.replicate o.sz .top)⟩
theorem ORel.cap {w:World} {Z:Addr→Prop} {γ:Gm} {o:Ob} {r:Rg} {cap:Nat} (hor:ORel w Z γ o r) (hc:cap * r.sz≤r.n):ORel w Z γ (qcP o cap) r:=by
 have hl:(qcP o cap).els.length=max o.els.length cap:=by simp[qcP];omega
 have hget:∀ e,e<max o.els.length cap→(qcP o cap).els.getD e []=if e<o.els.length then o.els.getD e [] else List.replicate o.sz .top:=fun e he=>by
  simp only[qcP,qGo];by_cases h:e<o.els.length
  ·rw[if_pos h,qGq h]
  ·rw[if_neg h,qGp (by omega),qHG,if_pos (by omega)];rfl
 refine⟨hor.spot,hor.sz,?_,fun e he=>?_,hor.live,fun e j he hj=>?_,hor.pln⟩
 ·rw[hl];show max o.els.length cap * o.sz≤r.n;rw[hor.sz]at hc;rcases Nat.le_total o.els.length cap with h | h
  ·have:max o.els.length cap=cap:=by omega
   rw[this];exact hc
  ·have:max o.els.length cap=o.els.length:=by omega
   rw[this];exact hor.fit
 ·rw[hl]at he;rw[hget e he];split
  ·rename_i h;exact hor.len e h
  ·simp[qcP]
 ·rw[hl]at he;rw[hget e he];by_cases h:e<o.els.length
  ·rw[if_pos h];exact hor.cell e j h hj
  ·have hj':j<o.sz:=hj;rw[if_neg h];have hlt:e * o.sz+j<r.n:=qdz (len:=cap) (by omega) hj' (by rw[← hor.sz];exact hc);obtain⟨⟨v,hv⟩,_⟩:=hor.live _ hlt;refine⟨v,hv,?_⟩;have:(List.replicate o.sz AV.top).getD j .top=.top:=by simp[List.getD,hj']
   rw[this];exact .top _ _
theorem ACall.cap {f id len:Nat} {o:Ob} {args:List AV} {L:List (Nat×Ob)} {R:AV→List (Nat×Ob)→Prop} (hn:∀ x∈L,x.1≠id)
  (h:∀ cap,len≤cap→ACall P f (.slc id 0 len cap::args) ((id,qcP o cap)::L) R):ACall P f (.sl id 0 len::args) ((id,o)::L) R:=by
 intro w Z γ vs hv hh hg;have h0:=hv.2 0 (by simp);simp only[qGB]at h0;obtain⟨cap,hc1,hc2,hrel⟩:∃ cap,len≤cap∧(∀ r,γ id=some r→cap * r.sz≤r.n)∧AVRel w Z γ (.slc id 0 len cap) (vs.getD 0 undef):=by
  generalize vs.getD 0 undef=v at h0;cases h0 with
  | sl _ _ _ _ cap r hg' hl hc =>
   refine⟨cap,hl,fun r' hr'=>?_,.slc _ _ _ _ _ r hg' hl hc⟩;rw[hg']at hr';injection hr' with hr';subst hr';simpa using hc
  | sl0 _ _ _ a=>exact⟨0,qFM _,fun _ _=>by simp,.slc0 _ _ _ _⟩
 have hob:qaQ ((id,o)::L) id=some o:=by simp
 have key:∀ i x,qaQ ((id,qcP o cap)::L) i=some x→(i=id∧x=qcP o cap)∨(i≠id∧qaQ ((id,o)::L) i=some x):=fun i x hx=>by
  simp only[qe2]at hx;by_cases hi:i=id
  ·rw[if_pos hi]at hx;injection hx with hx;exact .inl ⟨hi,hx.symm⟩
  ·rw[if_neg hi]at hx;exact .inr ⟨hi,by simp[hi,hx]⟩
 have hsame:∀ i,(qaQ ((id,qcP o cap)::L) i).isSome=(qaQ ((id,o)::L) i).isSome:=fun i=>by
  simp only[qe2];split <;> rfl
 have hex:∀ i x,qaQ ((id,qcP o cap)::L) i=some x→∃ y,qaQ ((id,o)::L) i=some y:=fun i x hx=>by
  have:=hsame i;rw[hx]at this;cases hy:qaQ ((id,o)::L) i with
  | none=>rw[hy]at this;simp at this
  | some y=>exact⟨y,rfl⟩
 have hh2:HRel w Z γ (qaQ ((id,qcP o cap)::L)):=by
  refine⟨fun i x hx=>?_,fun i j o1 o2 r1 r2 hne g1 g2 e1 e2=>?_,fun i x r hx hr=>?_,hh.zlt,hh.gl⟩
  ·rcases key i x hx with⟨rfl,rfl⟩ | ⟨_,hx⟩
   ·obtain⟨r,hr,hor⟩:=hh.obj _ _ hob;exact⟨r,hr,hor.cap (hc2 r hr)⟩
   ·exact hh.obj i x hx
  ·obtain⟨y1,hy1⟩:=hex _ _ g1;obtain⟨y2,hy2⟩:=hex _ _ g2;exact hh.dis i j y1 y2 r1 r2 hne hy1 hy2 e1 e2
  ·obtain⟨y,hy⟩:=hex _ _ hx;exact hh.zon i y r hy hr
 have hfoot:∀ p,qjt γ (qaQ ((id,qcP o cap)::L)) p↔qjt γ (qaQ ((id,o)::L)) p:=fun p=>by
  constructor
  ·rintro⟨i,x,r,hx,hr,hp⟩;obtain⟨y,hy⟩:=hex _ _ hx;exact⟨i,y,r,hy,hr,hp⟩
  ·rintro⟨i,x,r,hx,hr,hp⟩;have:=hsame i;rw[hx]at this;cases hy:qaQ ((id,qcP o cap)::L) i with
   | none=>rw[hy]at this;simp at this
   | some y=>exact⟨i,y,r,hy,hr,hp⟩
 refine(h cap hc1 w Z γ vs ⟨hv.1,fun j hj=>?_⟩ hh2 (fun i r hr=>by rw[hsame];exact hg i r hr)).mono ?_
 ·cases j with
  | zero=>simpa using hrel
  | succ j=>have:=hv.2 (j+1) (by simpa using hj);simpa using this
 ·rintro e w' ⟨v,r,L',Z',γ',h1,h2,h3,h4,h5,h6,h7,h8,h9⟩;refine⟨v,r,L',Z',γ',h1,h2,h3,h4,h5.mono fun i o hf=>(hfoot _).1 hf,h6,h7,fun i x rg hx hr p hp=>(h8 i x rg hx hr p hp).imp _root_.id (hfoot p).1,fun i x hx=>?_⟩;have:=hsame i;rw[hx]at this;cases hy:qaQ ((id,qcP o cap)::L) i with
  | none=>rw[hy]at this;simp at this
  | some y=>exact h9 i y hy
mutual
def unc:AV→AV
 | .slc id e len _=>.sl id e len
 | .agg cs=>.agg (qyM cs)
 | .tup cs=>.tup (qyM cs)
 | .top=>.top
 | .int k n=>.int k n
 | .bool b=>.bool b
 | .str s=>.str s
 | .nilp=>.nilp
 | .nils=>.nils
 | .nili=>.nili
 | .ifc=>.ifc
 | .anyb=>.anyb
 | .ptr a b c=>.ptr a b c
 | .sl a b c=>.sl a b c
 | .lst sz els=>.lst sz els
 | .elm cs=>.elm cs
 | .fn f cs=>.fn f cs
 | .bsl a b c d e=>.bsl a b c d e
def qyM:List AV→List AV
 | []=>[]
 | a::r=>unc a::qyM r
end
attribute [simp] unc qyM
theorem qdv:∀ l,(qyM l).length=l.length
 | []=>rfl
 | _::r=>by simp[qdv r]
theorem qin:∀ (l:List AV) (j:Nat),(qyM l).getD j .top=unc (l.getD j .top)
 | [],j=>by simp
 | a::r,0=>by simp
 | a::r,j+1=>by simpa using qin r j
theorem AVRel.unc {w:World} {Z:Addr→Prop} {γ:Gm} {av:AV} {v:Value} (h:AVRel w Z γ av v):AVRel w Z γ (unc av) v:=by
 induction h with
 | agg γ cs vs hs _ ih=>simp only[Av.unc];exact .agg _ _ _ (by rw[qdv];exact hs) fun j hj=>by rw[qin];exact ih j (by simpa [qdv]using hj)
 | tup γ cs vs hs _ ih=>simp only[Av.unc];exact .tup _ _ _ (by rw[qdv];exact hs) fun j hj=>by rw[qin];exact ih j (by simpa [qdv]using hj)
 | slc γ id e len cap r hg hl hc=>simp only[Av.unc];exact .sl _ _ _ _ _ r hg hl hc
 | slc0=>simp only[Av.unc];exact .sl0 _ _ _ _
 | top=>simp only[Av.unc];exact .top _ _
 | int=>simp only[Av.unc];exact .int _ _ _
 | bool=>simp only[Av.unc];exact .bool _ _
 | str=>simp only[Av.unc];exact .str _ _
 | nilp=>simp only[Av.unc];exact .nilp _
 | nils=>simp only[Av.unc];exact .nils _
 | nili=>simp only[Av.unc];exact .nili _
 | ifc=>simp only[Av.unc];exact .ifc _ _ _
 | anyb=>simp only[Av.unc];exact .anyb _ _
 | ptr γ id e off r hg=>simp only[Av.unc];exact .ptr _ _ _ _ r hg
 | sl γ id e len cap r hg hl hc=>simp only[Av.unc];exact .sl _ _ _ _ _ r hg hl hc
 | bsl γ id e off esz n r hg=>simp only[Av.unc];exact .bsl _ _ _ _ _ _ r hg
 | sl0=>simp only[Av.unc];exact .sl0 _ _ _ _
 | lst γ sz els a cap vf hl hc hs hr _=>simp only[Av.unc];exact .lst _ _ _ _ _ vf hl hc hs hr
 | elm γ cs A vf hA hz hc hr _=>simp only[Av.unc];exact .elm _ _ _ vf hA hz hc hr
 | fn γ f cs vs hs hr _=>simp only[Av.unc];exact .fn _ _ _ _ hs hr
inductive wkL:List (Nat×Ob)→List (Nat×Ob)→Prop
 | nil:wkL [] []
 | cons (id:Nat) (o:Ob) (k:Nat) {L L':List (Nat×Ob)} (h:wkL L L'):wkL ((id,o)::L) ((id,⟨o.sz,o.els.take k⟩)::L')
theorem qlw {L L':List (Nat×Ob)} (h:wkL L L'):∀ i x,qaQ L' i=some x→∃ o k,qaQ L i=some o∧x=⟨o.sz,o.els.take k⟩:=by
 induction h with
 | nil=>intro i x hx;simp at hx
 | cons id o k h ih =>
  intro i x hx;simp only[qe2]at hx ⊢;by_cases hi:i=id
  ·rw[if_pos hi]at hx ⊢;injection hx with hx;exact⟨o,k,rfl,hx.symm⟩
  ·rw[if_neg hi]at hx ⊢;exact ih i x hx
theorem ACall.weak {f:Nat} {args:List AV} {L:List (Nat×Ob)} {R R':AV→List (Nat×Ob)→Prop} (h:ACall P f args L R) (hr:∀ r L',R r L'→∃ L2,wkL L' L2∧R' (unc r) L2):ACall P f args L R':=by
 intro w Z γ vs hv hh hg;refine(h w Z γ vs hv hh hg).mono ?_;rintro e w' ⟨v,r,L',Z',γ',h1,h2,h3,h4,h5,h6,h7,h8,h9⟩;obtain⟨L2,hw,h2'⟩:=hr r L' h2;refine⟨v,Av.unc r,L2,Z',γ',h1,h2',h3.unc,⟨fun i x hx=>?_,fun i j o1 o2 r1 r2 hne g1 g2=>?_,fun i x rg hx=>?_,h4.zlt,h4.gl⟩,h5,h6,h7,fun i x rg hx=>?_,h9⟩
 ·obtain⟨o,k,ho,rfl⟩:=qlw hw i x hx;obtain⟨rg,hrg,hor⟩:=h4.obj i o ho;have hl:∀ e,e<(o.els.take k).length→e<o.els.length∧(o.els.take k).getD e []=o.els.getD e []:=fun e he=>by
   simp only[qFT]at he;exact⟨by omega,by simp[List.getD,qFV,show e<k by omega]⟩
  refine⟨rg,hrg,hor.spot,hor.sz,qFN (qF0 _ (by simp;omega)) hor.fit,fun e he=>?_,hor.live,fun e j he hj=>?_,hor.pln⟩
  ·obtain⟨a,b⟩:=hl e he;simp only[b];exact hor.len e a
  ·obtain⟨a,b⟩:=hl e he;simp only[b];exact hor.cell e j a hj
 ·obtain⟨y1,_,hy1,_⟩:=qlw hw i o1 g1;obtain⟨y2,_,hy2,_⟩:=qlw hw j o2 g2;exact h4.dis i j y1 y2 r1 r2 hne hy1 hy2
 ·obtain⟨y,_,hy,_⟩:=qlw hw i x hx;exact h4.zon i y rg hy
 ·obtain⟨y,_,hy,_⟩:=qlw hw i x hx;exact h8 i y rg hy
end
end Go.Av
end
section
namespace Go.Av
open Go.RowKit
section
variable {P:Program}
theorem qiA {P:Program} (w:World) (tS tR e:TypeId) (ht:P.underlying tS=some (.slice e)) (size:Nat) (hz:∀ w,(Go.sizeOf e).run P w=.ok size w)
  (a b:Addr) (la ca lb cb:Nat) (he:a.block=b.block) (hd:b.off+lb * size≤a.off∨a.off+la * size≤b.off) :
  (Extern.SlicesOverlaps.overlaps #[tS,tS] #[tR] #[.slice (some a) la ca,.slice (some b) lb cb]).run P w=.ok (.bool false) w:=by
 change Sem.run P (α:=Value) (do
  let some t:=(#[tS,tS]:Array TypeId)[0]? | stuck "slices.overlaps: no parameter types"
  let .slice elem ← underlying t | stuck "slices.overlaps: slice type expected"
  let size ← sizeOf elem
  match (some a:Option Addr),(some b:Option Addr)with
  | some a,some b =>
   if la=0∨lb=0∨size=0 then pure (Value.bool false)
   else if a.block != b.block && (← frozen a) && (← frozen b) then unsupported .addressObserved
   else do
    if a.block != b.block then do
     noView a;noView b
     if ← mayBeOne a b then return Value.bool ((← choose (.extern "sameAddr.stringBytes" 2)) == 1)
    pure (Value.bool (a.block == b.block && a.off<b.off+lb * size && b.off<a.off+la * size))
  | _,_=>pure (Value.bool false)) w=_
 by_cases h0:la=0∨lb=0∨size=0
 ·simp[qab ht,hz,h0]
 ·have h1:(decide (a.off<b.off+lb * size) && decide (b.off<a.off+la * size))=false:=by
   simp only[qGM,decide_eq_false_iff_not];omega
  simp[qab ht,hz,h0,he,frozen,Sem.run,h1]
theorem qbX {P:Program} (w:World) (tS tR e:TypeId) (ht:P.underlying tS=some (.slice e)) (size:Nat) (hz:∀ w,(Go.sizeOf e).run P w=.ok size w)
  (a b:Option Addr) (la ca lb cb:Nat) (h0:la=0∨lb=0) :
  (Extern.SlicesOverlaps.overlaps #[tS,tS] #[tR] #[.slice a la ca,.slice b lb cb]).run P w=.ok (.bool false) w:=by
 change Sem.run P (α:=Value) (do
  let some t:=(#[tS,tS]:Array TypeId)[0]? | stuck "slices.overlaps: no parameter types"
  let .slice elem ← underlying t | stuck "slices.overlaps: slice type expected"
  let size ← sizeOf elem
  match a,b with
  | some a,some b =>
   if la=0∨lb=0∨size=0 then pure (Value.bool false)
   else if a.block != b.block && (← frozen a) && (← frozen b) then unsupported .addressObserved
   else do
    if a.block != b.block then do
     noView a;noView b
     if ← mayBeOne a b then return Value.bool ((← choose (.extern "sameAddr.stringBytes" 2)) == 1)
    pure (Value.bool (a.block == b.block && a.off<b.off+lb * size && b.off<a.off+la * size))
  | _,_=>pure (Value.bool false)) w=_
 have h1:la=0∨lb=0∨size=0:=by omega
 cases a <;> cases b <;> simp[qab ht,hz,h1]
theorem qf6 {w:World} {b o:Nat} {v:Value} (h:w.cell? ⟨b,o,none⟩=some v):∃ t k,w.shape? b=some (t,k)∧o<k:=by
 unfold World.cell? at h;cases hx:w.heap[b]? with
 | none=>simp[hx]at h
 | some ob =>
  cases ob with
  | cells c ty fz =>
   refine⟨ty,c.size,by simp[World.shape?,hx],?_⟩;simp[hx]at h;rcases qGO o c.size with h1 | h1
   ·exact h1
   ·simp[qG0 h1]at h
  | _=>simp[hx]at h
theorem ql3 {f:Nat} {fn:Func} {tS tR e:Nat} {iS ie:TI} (hf:P.funcs[f]?=some fn) (hname:(fn.name == "runtime.NumGoroutine")=false) (hb:fn.body.isNone=true) (hn:Extern.findNext fn=none)
  (he:Extern.find fn=some (Extern.SlicesOverlaps.overlaps #[tS,tS] #[tR])) (hS:qaA P tS=some iS) (hS2:iS.td=.slc e) (hE:qaA P e=some ie) (hsz:1<ie.size) (o1 o2:Ob) (h1:o1.sz=ie.size) (h2:o2.sz=ie.size) (e1 len1 e2 len2:Nat) :
  ACall P f [.sl 1001 e1 len1,.sl 1000 e2 len2] [(1000,o2),(1001,o1)] (fun r L'=>r=.bool false∧L'=[(1000,o2),(1001,o1)]):=by
 intro w Z γ vs hv hh hg;have a1:=hv.2 0 (by simp);have a2:=hv.2 1 (by simp);have hs:=hv.1;simp only[qGk,qHf]at hs;simp only[qGB,qHn]at a1 a2;have hvs:vs=#[vs.getD 0 undef,vs.getD 1 undef]:=by
  apply qHH
  ·simpa using hs
  ·intro i hi1 hi2;have:i=0∨i=1:=by omega
   rcases this with rfl | rfl
   ·simp[Array.getD,hi1]
   ·simp[Array.getD,hi1]
 obtain⟨r2,hr2,hor2⟩:=hh.obj 1000 o2 (by simp);obtain⟨r1,hr1,hor1⟩:=hh.obj 1001 o1 (by simp);have hdis:=hh.dis 1001 1000 o1 o2 r1 r2 (by omega) (by simp) (by simp) hr1 hr2;have hSu:=qaX hS hS2;have hsize:∀ w:World,(Go.sizeOf e).run P w=.ok ie.size w:=fun w=>qaH hE;refine .inr ⟨.bool false,w,?_,.bool false,.bool false,_,Z,γ,rfl,⟨rfl,rfl⟩,.bool _ _,hh,.refl _ _,fun _ h=>h,fun _ h=>.inl h,fun id o rg ho hg p hp=>.inr ⟨id,o,rg,ho,hg,hp⟩,fun _ _ _=>rfl⟩;rw[run_callFunc_extern hf hname hb hn he];have:(Extern.SlicesOverlaps.overlaps #[tS,tS] #[tR] vs).run P w=.ok (.bool false) w:=by
  rw[hvs];generalize vs.getD 0 undef=x at a1 hvs;generalize vs.getD 1 undef=y at a2 hvs;cases a1 with
  | sl0 =>
   cases a2 with
   | sl0=>exact qbX w tS tR e hSu _ hsize _ _ _ _ _ _ (.inl rfl)
   | sl=>exact qbX w tS tR e hSu _ hsize _ _ _ _ _ _ (.inl rfl)
  | sl _ _ _ _ c1 r g1 hl1 hc1 =>
   cases a2 with
   | sl0=>exact qbX w tS tR e hSu _ hsize _ _ _ _ _ _ (.inr rfl)
   | sl _ _ _ _ c2 r' g2 hl2 hc2 =>
    rw[hr1]at g1;injection g1 with g1;subst g1;rw[hr2]at g2;injection g2 with g2;subst g2;by_cases z1:len1=0
    ·exact qbX w tS tR e hSu _ hsize _ _ _ _ _ _ (.inl z1)
    by_cases z2:len2=0
    ·exact qbX w tS tR e hSu _ hsize _ _ _ _ _ _ (.inr z2)
    have s1:r1.sz=ie.size:=hor1.sz.trans h1;have s2:r2.sz=ie.size:=hor2.sz.trans h2;rw[s1]at hc1 ⊢;rw[s2]at hc2 ⊢;have b1:(e1+len1) * ie.size≤r1.n:=qFN (qF0 _ (by omega)) hc1;have b2:(e2+len2) * ie.size≤r2.n:=qFN (qF0 _ (by omega)) hc2;rw[qFW]at b1 b2;have p1:0<len1 * ie.size:=Nat.mul_pos (by omega) (by omega);have p2:0<len2 * ie.size:=Nat.mul_pos (by omega) (by omega);have n1:0<r1.n:=by omega
    have n2:0<r2.n:=by omega
    by_cases hbl:r1.A.block=r2.A.block
    ·refine qiA w tS tR e hSu _ hsize _ _ _ _ _ _ hbl ?_;simp only[Addr.at];unfold Rg.apart at hdis;rcases hdis with h | h | h | h | h
     ·omega
     ·omega
     ·exact absurd hbl h
     ·right;omega
     ·left;omega
    ·obtain⟨⟨u1,hu1⟩,hz1⟩:=hor1.live (e1 * ie.size) (by omega);obtain⟨⟨u2,hu2⟩,_⟩:=hor2.live (e2 * ie.size) (by omega);obtain⟨t1,k1,q1,q1'⟩:=qf6 hu1;obtain⟨t2,k2,q2,q2'⟩:=qf6 hu2;exact Go.Lib.run_overlaps_apart w tS tR e hSu _ hsize _ _ _ _ _ _ hbl t1 t2 k1 k2 q1 q2 (by omega) hz1 (hor1.pln (by omega) n1 k1)
 rw[this];rfl
end
end Go.Av
end
section
namespace Go.Av
open Go.RowKit
section
variable {P:Program}
theorem ACall.nils {f id sz:Nat} {args:List AV} {L:List (Nat×Ob)} {R R':AV→List (Nat×Ob)→Prop} (h:ACall P f args L R) (hid:∀ x∈L,x.1≠id) (hr:∀ r L',R r L'→R' r L'∨(r=.nils∧R' (.sl id 0 0) [(id,⟨sz,[]⟩)])):ACall P f args L R':=by
 intro w Z γ vs hv hh hg;refine(h w Z γ vs hv hh hg).mono ?_;rintro e w' ⟨v,r,L',Z',γ',h1,h2,h3,h4,h5,h6,h7,h8,h9⟩;rcases hr r L' h2 with h | ⟨rfl,h⟩
 ·exact⟨v,r,L',Z',γ',h1,h,h3,h4,h5,h6,h7,h8,h9⟩
 ·cases h3;have one:∀ i x,qaQ [(id,(⟨sz,[]⟩:Ob))] i=some x→i=id∧x=⟨sz,[]⟩:=fun i x hx=>by
   simp only[qe2,qub]at hx;by_cases hi:i=id
   ·rw[if_pos hi]at hx;injection hx with hx;exact⟨hi,hx.symm⟩
   ·rw[if_neg hi]at hx;cases hx
  refine⟨_,.sl id 0 0,[(id,⟨sz,[]⟩)],Z',upd γ' id (some ⟨⟨0,0,none⟩,0,sz⟩),h1,h,.sl0 _ _ _ _,⟨fun i x hx=>?_,fun i j o1 o2 r1 r2 hne g1 g2=>?_,fun i x rg hx hr p hp=>?_,h4.zlt,h4.gl⟩,h5,h6,h7,fun i x rg hx hr p hp=>?_,fun i x hx=>?_⟩
  ·obtain⟨rfl,rfl⟩:=one i x hx;exact⟨_,qat _ _ _,rfl,rfl,by simp,fun e he=>by simp at he,fun k hk=>by simp at hk,fun e j he=>by simp at he,fun _ h2=>by simp at h2⟩
  ·obtain⟨rfl,_⟩:=one i o1 g1;obtain⟨rfl,_⟩:=one j o2 g2;exact absurd rfl hne
  ·obtain⟨rfl,rfl⟩:=one i x hx;rw[qat]at hr;injection hr with hr;subst hr;obtain⟨_,_,h3,_⟩:=hp;simp at h3
  ·obtain⟨rfl,rfl⟩:=one i x hx;rw[qat]at hr;injection hr with hr;subst hr;obtain⟨_,_,h3,_⟩:=hp;simp at h3
  ·have hne:i≠id:=hid _ (qbx hx);rw[qay _ _ hne];exact h9 i x hx
end
end Go.Av
end
section
namespace Go.Av
open Go.RowKit
section
variable {P:Program}
def phs (id sz:Nat) (r r2:AV):Prop:=∀ (w:World) (Z:Addr→Prop) (γ:Gm) (v:Value),γ id=some ⟨⟨0,0,none⟩,0,sz⟩→AVRel w Z γ r v→AVRel w Z γ r2 v
theorem qtJ (id sz:Nat) (r:AV):phs id sz r r:=fun _ _ _ _ _ h=>h
theorem qxp (id sz:Nat):phs id sz .nils (.sl id 0 0):=fun _ _ _ _ _ h=>by cases h;exact .sl0 _ _ _ _
theorem qxq {id sz:Nat} {cs ds:List AV} (hl:cs.length=ds.length) (h:∀ j,j<cs.length→phs id sz (cs.getD j .top) (ds.getD j .top)):phs id sz (.agg cs) (.agg ds):=fun w Z γ v hg hr=>by
 cases hr with
 | agg _ _ vs hs hr=>exact .agg _ _ _ (by rw[hs,hl]) fun j hj=>h j (by omega) w Z γ _ hg (hr j (by omega))
theorem qxo {id sz:Nat} {cs ds:List AV} (hl:cs.length=ds.length) (h:∀ j,j<cs.length→phs id sz (cs.getD j .top) (ds.getD j .top)):phs id sz (.tup cs) (.tup ds):=fun w Z γ v hg hr=>by
 cases hr with
 | tup _ _ vs hs hr=>exact .tup _ _ _ (by rw[hs,hl]) fun j hj=>h j (by omega) w Z γ _ hg (hr j (by omega))
theorem qtK {id sz:Nat}:phs id sz (.agg [.nils]) (.agg [.sl id 0 0]):=qxq rfl fun j hj=>by
 have:j=0:=by simpa using hj
 subst this;exact qxp id sz
theorem qtH {id sz:Nat} {a b c d:AV} (h1:phs id sz a b) (h2:phs id sz c d):phs id sz (.tup [a,c]) (.tup [b,d]):=qxo rfl fun j hj=>by
 match j,hj with
 | 0,_=>exact h1
 | 1,_=>exact h2
theorem ACall.ph (id sz:Nat) {f:Nat} {args:List AV} {L:List (Nat×Ob)} {R R':AV→List (Nat×Ob)→Prop} (h:ACall P f args L R) (hid:∀ x∈L,x.1≠id)
  (hr:∀ r L',R r L'→R' r L'∨(clA r=true∧(∀ x∈L',clR x.2.els=true∧x.1≠id)∧∃ r2,phs id sz r r2∧R' r2 ((id,⟨sz,[]⟩)::L'))):ACall P f args L R':=by
 intro w Z γ vs hv hh hg;refine(h w Z γ vs hv hh hg).mono ?_;rintro e w' ⟨v,r,L',Z',γ',h1,h2,h3,h4,h5,h6,h7,h8,h9⟩;rcases hr r L' h2 with h | ⟨hcl,hL,r2,hp,h⟩
 ·exact⟨v,r,L',Z',γ',h1,h,h3,h4,h5,h6,h7,h8,h9⟩
 ·have two:∀ i x,qaQ ((id,(⟨sz,[]⟩:Ob))::L') i=some x→(i=id∧x=⟨sz,[]⟩)∨(i≠id∧qaQ L' i=some x):=fun i x hx=>by
   simp only[qe2]at hx;by_cases hi:i=id
   ·rw[if_pos hi]at hx;injection hx with hx;exact .inl ⟨hi,hx.symm⟩
   ·rw[if_neg hi]at hx;exact .inr ⟨hi,hx⟩
  refine⟨v,r2,_,Z',upd γ' id (some ⟨⟨0,0,none⟩,0,sz⟩),h1,h,hp _ _ _ _ (qat _ _ _) (h3.closed hcl),⟨fun i x hx=>?_,fun i j o1 o2 r1 r2 hne g1 g2 e1 e2=>?_,fun i x rg hx hr p hp=>?_,h4.zlt,h4.gl⟩,h5,h6,h7,fun i x rg hx hr p hp=>?_,fun i x hx=>?_⟩
  ·rcases two i x hx with⟨rfl,rfl⟩ | ⟨hi,hx⟩
   ·exact⟨_,qat _ _ _,rfl,rfl,by simp,fun e he=>by simp at he,fun k hk=>by simp at hk,fun e j he=>by simp at he,fun _ h2=>by simp at h2⟩
   ·obtain⟨rg,hrg,hor⟩:=h4.obj i x hx;refine⟨rg,by rw[qay _ _ hi];exact hrg,hor.spot,hor.sz,hor.fit,hor.len,hor.live,fun e j he hj=>?_,hor.pln⟩;obtain⟨u,hu,hru⟩:=hor.cell e j he hj;exact⟨u,hu,hru.closed (qc8 _ _ (qGf.1 (hL _ (qbx hx)).1 _ (qc5 _ _ he)))⟩
  ·rcases two i o1 g1 with⟨rfl,_⟩ | ⟨hi,g1⟩
   ·rw[qat]at e1;injection e1 with e1;subst e1;exact .inl rfl
   ·rcases two j o2 g2 with⟨rfl,_⟩ | ⟨hj,g2⟩
    ·rw[qat]at e2;injection e2 with e2;subst e2;exact .inr (.inl rfl)
    ·rw[qay _ _ hi]at e1;rw[qay _ _ hj]at e2;exact h4.dis i j o1 o2 r1 r2 hne g1 g2 e1 e2
  ·rcases two i x hx with⟨rfl,rfl⟩ | ⟨hi,hx⟩
   ·rw[qat]at hr;injection hr with hr;subst hr;obtain⟨_,_,h3,_⟩:=hp;simp at h3
   ·rw[qay _ _ hi]at hr;exact h4.zon i x rg hx hr p hp
  ·rcases two i x hx with⟨rfl,rfl⟩ | ⟨hi,hx⟩
   ·rw[qat]at hr;injection hr with hr;subst hr;obtain⟨_,_,h3,_⟩:=hp;simp at h3
   ·rw[qay _ _ hi]at hr;exact h8 i x rg hx hr p hp
  ·have hne:i≠id:=hid _ (qbx hx);rw[qay _ _ hne];exact h9 i x hx
end
end Go.Av
end
section
namespace Go.Av
open Go.RowKit
section
variable {P:Program} {E:Env} {s:S} {Q:Exit→S→Prop}
def qgF (r r2:AV):Prop:=∀ (w:World) (Z:Addr→Prop) (γ:Gm) (v:Value),AVRel w Z γ r v→AVRel w Z γ r2 v
theorem qaE (r:AV):qgF r r:=fun _ _ _ _ h=>h
theorem qa2 (sz:Nat):qgF .nils (.lst sz []):=fun w Z γ v h=>by
 cases h;exact .lst _ sz [] none 0 (fun _ _=>undef) (qFM _) (fun h=>absurd rfl h) (fun i hi=>by simp at hi) (fun i j hi=>by simp at hi)
theorem qrZ {a b:AV} (h:qgF a b):qgF (.agg [a]) (.agg [b]):=fun w Z γ v hr=>by
 cases hr with
 | agg _ _ vs hs hr =>
  refine .agg _ _ _ (by rw[hs];rfl) fun j hj=>?_;have:j=0:=by simpa using hj
  subst this;exact h _ _ _ _ (hr 0 (by simp))
theorem qrY {a b c d:AV} (h1:qgF a b) (h2:qgF c d):qgF (.tup [a,c]) (.tup [b,d]):=fun w Z γ v hr=>by
 cases hr with
 | tup _ _ vs hs hr =>
  refine .tup _ _ _ (by rw[hs];rfl) fun j hj=>?_
  match j,hj with
  | 0,_=>exact h1 _ _ _ _ (hr 0 (by simp))
  | 1,_=>exact h2 _ _ _ _ (hr 1 (by simp))
theorem ACall.imp {f:Nat} {args:List AV} {L:List (Nat×Ob)} {R R':AV→List (Nat×Ob)→Prop} (h:ACall P f args L R) (hr:∀ r L',R r L'→∃ r2,qgF r r2∧R' r2 L'):ACall P f args L R':=by
 intro w Z γ vs hv hh hg;refine(h w Z γ vs hv hh hg).mono ?_;rintro e w' ⟨v,r,L',Z',γ',h1,h2,h3,rest⟩;obtain⟨r2,hi,h⟩:=hr r L' h2;exact⟨v,r2,L',Z',γ',h1,h,hi _ _ _ _ h3,rest⟩
theorem ACall.frz {f:Nat} {args:List AV} {R R':AV→List (Nat×Ob)→Prop} (h:ACall P f args [] R) (hr:∀ r L',R r L'→∃ id o,L'=[(id,o)]∧clR o.els=true∧R' (frz id o r) []):ACall P f args [] R':=by
 intro w Z γ vs hv hh hg;refine(h w Z γ vs hv hh hg).mono ?_;rintro e w' ⟨v,r,L',Z',γ',h1,h2,h3,h4,h5,h6,h7,h8,h9⟩;obtain⟨id,o,rfl,hcl,h⟩:=hr r L' h2;obtain⟨rg,hrg,hor⟩:=h4.obj id o (by simp);refine⟨v,Av.frz id o r,[],fun p=>Z' p∨rg.has p,γ',h1,h,h3.frz hrg hor hcl,⟨fun i x hx=>by simp at hx,fun i j o1 o2 r1 r2 hne g1=>by simp at g1,fun i x rg hx=>by simp at hx,fun p hp=>?_,h4.gl.world (fun _ h=>.inl h) (fun _ _=>rfl)⟩,h5,fun p hp=>.inl (h6 p hp),fun p hp=>?_,fun i x rg hx=>by simp at hx,fun i x hx=>by simp at hx⟩
 ·rcases hp with hp | hp
  ·exact h4.zlt p hp
  ·obtain⟨p1,p2,p3,p4⟩:=hp;obtain⟨⟨u,hu⟩,_⟩:=hor.live (p.off-rg.A.off) (by omega);have:=World.block_lt_of_cell? w' _ hu;simp only[qih]at this;omega
 ·rcases hp with hp | hp
  ·exact h7 p hp
  ·rcases h8 id o rg (by simp) hrg p hp with h | ⟨i,x,r',hx,_⟩
   ·exact .inr h
   ·simp at hx
end
attribute [simp] frz qmn
end Go.Av
namespace Go.Av
open Go.RowKit
section
variable {P:Program} {E:Env} {s:S} {Q:Exit→S→Prop}
theorem qjA {st:S} (live:List Nat) (φ:List (Nat×Nat)) (h3:qae E φ s) (h4:qao E.ins live φ s=st):SW E s st:=h4 ▸ qkg live φ h3.1 h3.2.1 h3.2.2.1 h3.2.2.2
theorem qzL {st:S} (id:Nat) {o:Ob} (ho:s.h id=some o) (hcl:o.els.all clL=true) (hni:id ∉ E.ins) (hins:∀ i∈E.ins,(s.h i).isSome=true) (live:List Nat) (φ:List (Nat×Nat)) (h3:qae E φ (qCM id o s)) (h4:qao E.ins live φ (qCM id o s)=st):SW E s st :=
 (qzK id ho hcl hni hins).trans (qjA live φ h3 h4)
def qE7 {X:Type} (E:Env) (st0:X→S) (good:X→Prop) (s':S):Prop:=∃ x,good x∧SW E s' (st0 x)
theorem qwb {a b:ACode} {X:Type} (st0:X→S) (good:X→Prop) (ha:ev P E a (qfv (qE7 E st0 good) Q) s) (hb:∀ x,good x→VA P E b (st0 x) Q):VA P E (.seq a b) s Q:=by
 refine qju ((qbE a ha).mono fun e s' h=>?_);cases e with
 | normal =>
  obtain⟨x,hg,hsw⟩:=h;exact qqq hsw (hb x hg)
 | _=>exact h
theorem qnH {X:Type} {st0:X→S} {good:X→Prop} (x:X) (h2:good x) (h:SW E s (st0 x)):qE7 E st0 good s:=⟨x,h2,h⟩
end
attribute [simp] qCM qlt
end Go.Av
end
