/- Lemmas for the proof, no statement of the seat; no conditions. -/
import Derived.Test.YthgigdhkcffloaaGreatDoorLayAE
import Derived.Lib.Overlaps
set_option linter.unusedSimpArgs false
set_option linter.unusedVariables false
set_option linter.unnecessarySimpa false
set_option maxRecDepth 100000
section
namespace Go.Av
open Go.RowKit
def condQ (v:AV) (x y:Prop):Prop :=
 match v with
 | .bool b=>(b=true→x)∧(b=false→y)
 | .anyb=>x∧y
 | _=>False
def ev (P:Program) (E:Env):ACode→(Exit→S→Prop)→S→Prop
 | .skip,Q,s=>Q .normal s
 | .reg l,Q,s=>regA P (Q .normal) l s
 | .draw l,Q,s=>P.follows .mixedOrders=true∧drawA P (Q .normal) l s
 | .seq a b,Q,s=>ev P E a (thenQ (ev P E b Q) Q) s
 | .cond c a b,Q,s=>condQ (opd s.t c) (ev P E a Q s) (ev P E b Q s)
 | .block id a,Q,s=>ev P E a (qbw id Q) s
 | .exit id,Q,s=>Q (.exit id) s
 | .ret,Q,s=>Q .ret s
 | .loop a,Q,s=>VA P E (.loop a) s Q
 | .rng g p q a,Q,s=>VA P E (.rng g p q a) s Q
section
variable {P:Program} {E:Env} {s:S} {Q:Exit→S→Prop}
theorem stepA_mono {op:Op} {d:Option Nat} {K K':S→Prop} (hk:∀ s,K s→K' s) (h:stepA P op d s K):stepA P op d s K':=by
 unfold stepA at *
 split at h
 ·unfold callFA at *
  split at h
  ·obtain⟨h1,hv,pl,argsC,L,R,h3,h4,h5⟩:=h
   refine⟨h1,hv,pl,argsC,L,R,h3,h4,fun r L' hr=>?_⟩
   grind
  omega
 ·unfold outA at *
  grind
theorem guardA_mono {o:AOper} {K K':S→Prop} (hk:∀ s,K s→K' s) (h:guardA P o s K):guardA P o s K':=by
 unfold guardA at *
 split at h
 all_goals grind[stepA_mono]
theorem thenQ_mono {N N':S→Prop} {Q Q':Exit→S→Prop} (hn:∀ s,N s→N' s) (hq:∀ e s,Q e s→Q' e s):∀ e s,thenQ N Q e s→thenQ N' Q' e s:=by
 intro e s h
 cases e <;> first | exact hn _ h | exact hq _ _ h
theorem qal:∀ (a:ACode) {Q:Exit→S→Prop} {s:S},ev P E a Q s→VA P E a s Q
 | .skip,Q,s,h=>va_skip h
 | .reg l,Q,s,h=>va_reg h
 | .draw l,Q,s,h=>va_draw h.1 h.2
 | .seq a b,Q,s,h=>va_seq ((qal a h).mono fun e s' h'=>by
   cases e with
   | normal=>exact qal b h'
   | _=>exact h')
 | .cond c a b,Q,s,h=>by
   simp only[ev]at h
   unfold condQ at h
   split at h
   ·rename_i bb hb
    exact va_cond hb (fun e=>qal a (h.1 e)) (fun e=>qal b (h.2 e))
   ·rename_i hb
    exact va_cond_any hb (qal a h.1) (qal b h.2)
   grind
 | .block id a,Q,s,h=>va_block (qal a h)
 | .exit id,Q,s,h=>va_exit h
 | .ret,Q,s,h=>va_ret h
 | .loop a,Q,s,h=>h
 | .rng g p q a,Q,s,h=>h
theorem regA_mono {K K':S→Prop} (hk:∀ s,K s→K' s):∀ (l:List AOper) (s:S),regA P K l s→regA P K' l s
 | [],s,h=>hk s h
 | o::r,s,h=>guardA_mono (fun s' h'=>regA_mono hk r s' h') h
theorem guardD_mono {o:DOper} {K K':S→Prop} (hk:∀ s,K s→K' s) (h:guardD P o s K):guardD P o s K':=by
 have hst:stepD P o.rd o.av o.o.op o.o.d s K→stepD P o.rd o.av o.o.op o.o.d s K':=fun h=>by
  unfold stepD at *
  split at h
  ·rename_i hv;rw[if_pos hv]
   unfold outV at *
   grind
  grind[stepA_mono]
 unfold guardD at *
 split at h
 all_goals grind
theorem drawA_mono {K K':S→Prop} (hk:∀ s,K s→K' s):∀ (l:List DOper) (s:S),drawA P K l s→drawA P K' l s
 | [],s,h=>hk s h
 | o::r,s,h=>⟨h.1,guardD_mono (fun s' h'=>drawA_mono hk r s' h') h.2⟩
theorem ev_mono:∀ (a:ACode) {Q Q':Exit→S→Prop} {s:S},(∀ e s,Q e s→Q' e s)→ev P E a Q s→ev P E a Q' s
 | .skip,Q,Q',s,hq,h=>hq _ _ h
 | .reg l,Q,Q',s,hq,h=>regA_mono (hq .normal) l s h
 | .draw l,Q,Q',s,hq,h=>⟨h.1,drawA_mono (hq .normal) l s h.2⟩
 | .seq a b,Q,Q',s,hq,h=>ev_mono a (thenQ_mono (fun s' h'=>ev_mono b hq h') hq) h
 | .cond c a b,Q,Q',s,hq,h=>by
   simp only[ev]at *
   unfold condQ at *
   split at h
   ·exact⟨fun e=>ev_mono a hq (h.1 e),fun e=>ev_mono b hq (h.2 e)⟩
   ·exact⟨ev_mono a hq h.1,ev_mono b hq h.2⟩
   omega
 | .block id a,Q,Q',s,hq,h=>ev_mono a (fun e s h=>by
   cases e<;>grind[qbw]) h
 | .exit id,Q,Q',s,hq,h=>hq _ _ h
 | .ret,Q,Q',s,hq,h=>hq _ _ h
 | .loop a,Q,Q',s,hq,h=>VA.mono h hq
 | .rng g p q a,Q,Q',s,hq,h=>VA.mono h hq
@[simp] theorem ev_skip:ev P E .skip Q s=Q .normal s:=rfl
@[simp] theorem ev_reg (l:List AOper):ev P E (.reg l) Q s=regA P (Q .normal) l s:=rfl
@[simp] theorem ev_draw (l:List DOper):ev P E (.draw l) Q s=(P.follows .mixedOrders=true∧drawA P (Q .normal) l s):=rfl
@[simp] theorem ev_seq (a b:ACode):ev P E (.seq a b) Q s=ev P E a (thenQ (ev P E b Q) Q) s:=rfl
@[simp] theorem ev_cond (c:Operand) (a b:ACode):ev P E (.cond c a b) Q s=condQ (opd s.t c) (ev P E a Q s) (ev P E b Q s):=rfl
@[simp] theorem condQ_any (x y:Prop):condQ .anyb x y=(x∧y):=rfl
@[simp] theorem condQ_bool (b:Bool) (x y:Prop):condQ (.bool b) x y=((b=true→x)∧(b=false→y)):=rfl
@[simp] theorem ev_block (id:Nat) (a:ACode):ev P E (.block id a) Q s=ev P E a (qbw id Q) s:=rfl
@[simp] theorem ev_exit (id:Nat):ev P E (.exit id) Q s=Q (.exit id) s:=rfl
@[simp] theorem ev_ret:ev P E .ret Q s=Q .ret s:=rfl
def qab (E:Env) (φ:List (Nat×Nat)) (s:S):Prop :=
 (∀ p∈φ,(s.h p.1).isSome=true)∧(φ.map (·.2)).Nodup∧(∀ p∈φ,p.2∈E.ins→p.1=p.2)∧(φ.map (·.1)).Nodup
def headI (E:Env) (live:List Nat) (I:Nat→S→Prop) (k:Nat) (s:S):Prop:=∃ φ,qab E φ s∧I k (canon E.ins live φ s)
theorem ev_loop {a:ACode} (live:List Nat) (I:Nat→S→Prop) (k:Nat) (h0:headI E live I k s)
  (round:∀ k s,I k s→ev P E a (thenQ (fun s'=>∃ k',k'<k∧headI E live I k' s') Q) s):ev P E (.loop a) Q s:=by
 obtain⟨φ,hok,hI⟩:=h0
 show VA P E (.loop a) s Q
 refine va_pre (sw_canon live φ hok.1 hok.2.1 hok.2.2.1 hok.2.2.2) (va_loop I k hI fun k s hI=>va_post ?_)
 refine(qal a (round k s hI)).mono fun e s' h=>?_
 cases e with
 | normal =>
  obtain⟨k',hk,φ,hok,hI⟩:=h
  exact⟨_,sw_canon live φ hok.1 hok.2.1 hok.2.2.1 hok.2.2.2,k',hk,hI⟩
 | _=>exact⟨_,.refl,h⟩
def nextX {X:Type} (E:Env) (live:List Nat) (st0:X→S) (meas:X→Nat) (good:X→Prop) (x:X) (s':S):Prop :=
 ∃ x',meas x'<meas x∧good x'∧∃ φ,qab E φ s'∧canon E.ins live φ s'=st0 x'
theorem qbs {X:Type} {live:List Nat} {st0:X→S} {meas:X→Nat} {good:X→Prop} {x:X} (x':X) (h1:meas x'<meas x) (h2:good x') (φ:List (Nat×Nat)) (h3:qab E φ s) (h4:canon E.ins live φ s=st0 x'):nextX E live st0 meas good x s:=⟨x',h1,h2,φ,h3,h4⟩
theorem qbu {a:ACode} {X:Type} (live:List Nat) (st0:X→S) (meas:X→Nat) (good:X→Prop) (x0:X) (h0:good x0∧∃ φ,qab E φ s∧canon E.ins live φ s=st0 x0)
  (round:∀ x,good x→ev P E a (thenQ (nextX E live st0 meas good x) Q) (st0 x)):ev P E (.loop a) Q s:=by
 obtain⟨hg,φ,hok,he⟩:=h0
 refine ev_loop live (fun k st=>∃ x,k=meas x∧good x∧st=st0 x) (meas x0) ⟨φ,hok,x0,rfl,hg,he⟩ ?_
 rintro k st ⟨x,rfl,hx,rfl⟩
 have:=round x hx
 refine ev_mono a (thenQ_mono (fun s'=>?_) fun _ _ h=>h) this
 rintro⟨x',hm,hg',φ,hok,he⟩
 exact⟨_,hm,φ,hok,x',rfl,hg',he⟩
def resQ (h:Hp) (R:AV→List (Nat×Ob)→Prop):Option (Prop×List AV)→Prop
 | some (p,vs)=>p∧∃ L',hpLe h L'∧R (resOf vs) L'
 | none=>False
@[simp] theorem resQ_some (h:Hp) (R:AV→List (Nat×Ob)→Prop) (p:Prop) (vs:List AV):resQ h R (some (p,vs))=(p∧∃ L',hpLe h L'∧R (resOf vs) L'):=rfl
theorem retQ_eq (rs:List ResultVar) (R:AV→List (Nat×Ob)→Prop) {e:Exit} (he:e=.normal∨e=.ret):retQ P rs R e s=resQ s.h R (evResL P s rs):=by
 unfold retQ resQ
 grind
@[simp] theorem retQ_ret (rs:List ResultVar) (R:AV→List (Nat×Ob)→Prop):retQ P rs R .ret s=resQ s.h R (evResL P s rs):=retQ_eq rs R (.inr rfl)
theorem Us.app_nil (u:Us):Us.app [] u=u:=by
 funext x;exact propext ⟨fun h=>h.elim (fun h=>by grind) id,.inr⟩
theorem remH_nil (h:Hp):remH h []=h:=rfl
mutual
theorem mtA_cl {h:Hp} {ids:List Nat} {ρ:Nat→Option Plc}:∀ (a:AV),clA a=true→mtA h ids ρ a a
 | .top,_=>by simp[mtA]
 | .int _ _,_=>by rfl
 | .bool _,_=>by rfl
 | .str _,_=>by rfl
 | .nilp,_=>by rfl
 | .nils,_=>by rfl
 | .nili,_=>by rfl
 | .ifc,_=>by rfl
 | .anyb,_=>by rfl
 | .any1,_=>by rfl
 | .lst _ _,_=>by simp[mtA,vwOk]
 | .elm _,_=>by rfl
 | .ptr _ _ _,hc=>by grind[clA]
 | .sl _ _ _,hc=>by grind[clA]
 | .slc _ _ _ _,hc=>by grind[clA]
 | .bsl _ _ _ _ _,hc=>by grind[clA]
 | .agg cs,hc=>by exact mtL_cl cs (by grind[clA])
 | .tup cs,hc=>by exact mtL_cl cs (by grind[clA])
 | .fn _ cs,hc=>by simp only[mtA];exact⟨trivial,mtL_cl cs (by grind[clA])⟩
theorem mtL_cl {h:Hp} {ids:List Nat} {ρ:Nat→Option Plc}:∀ (l:List AV),clL l=true→mtL h ids ρ l l
 | [],_=>by rfl
 | a::r,hc=>by
  simp only[clL,Bool.and_eq_true]at hc
  exact⟨mtA_cl a hc.1,mtL_cl r hc.2⟩
end
theorem callA_ex {f:Nat} {args:List AV} {R:AV→Prop} {dst:Option Nat} {K:S→Prop} (en:enters P f=true) (hC:ACall P f args [] (fun r L'=>R r∧clA r=true∧L'=[])) (hfl:clL args=true)
  (hK:∀ v,R v→K ⟨putA s.t dst v,s.h,s.u⟩):callA P f args dst s K:=by
 refine⟨en,fun _=>none,[],args,[],_,⟨.inr rfl,mtL_cl _ hfl,List.nodup_nil,by simp,by simp,by simp⟩,hC,?_⟩
 rintro r L' ⟨hr,hv,rfl⟩
 refine⟨[],⟨.inl rfl,List.nodup_nil,List.nodup_nil,by simp,by simp,by simp⟩,?_⟩
 grind[qae,putH,remH_nil,Us.app_nil,renL_closed]
theorem qcb {f:Nat} {args:List AV} {v:AV} {dst:Option Nat} {K:S→Prop} (en:enters P f=true) (hC:ACall P f args [] (fun r L'=>r=v∧L'=[])) (hfl:clL args=true) (hv:clA v=true)
  (hK:K ⟨putA s.t dst v,s.h,s.u⟩):callA P f args dst s K :=
 callA_ex (R:=fun r=>r=v) en (hC.mono fun r L' h=>⟨h.1,by grind,h.2⟩) hfl fun u hu=>by grind
end
end Go.Av

end
section
namespace Go.Av
open Go.RowKit
@[simp] theorem renOb_mk (ρ:Nat→Option Plc) (sz:Nat) (els:List (List AV)):renOb ρ ⟨sz,els⟩=⟨sz,els.map (renL ρ)⟩:=rfl
attribute [simp] plOf ren2 remH putH putH1 mtL mtA vwOk clR clL clA Plc.id noA noL
@[simp] theorem phOf_nil (i:Nat):phOf [] i=none:=rfl
def inAll (hv h:Hp) (pl:List (Nat×Plc)):List (Nat×Ob)→Prop
 | []=>True
 | (c,o)::r=>(match plOf pl c with | some p=>inMt1 hv h (pl.map (·.2.id)) (plOf pl) o p | none=>False)∧inAll hv h pl r
theorem inAll_spec {hv h:Hp} {pl:List (Nat×Plc)}:∀ {L:List (Nat×Ob)},inAll hv h pl L→∀ x,x∈L→∃ p,plOf pl x.1=some p∧inMt1 hv h (pl.map (·.2.id)) (plOf pl) x.2 p
 | [],_,x,hx=>by grind
 | (c,o)::r,hi,x,hx=>by
  simp only[List.mem_cons]at hx
  rcases hx with rfl | hx
  ·have:=hi.1
   grind
  ·exact inAll_spec hi.2 x hx
structure OutOk (s:S) (pl:List (Nat×Plc)) (φ:List (Nat×Nat)) (L':List (Nat×Ob)):Prop where
 nod:(L'.map (·.1)).Nodup
 new:(φ.map (·.2)).Nodup
 unu:∀ x,x∈φ→x.2 ∉ s.u
 kin:∀ x,x∈L'→(plOf pl x.1).isSome=true∨(phOf φ x.1).isSome=true
 sub:∀ x,x∈pl→match x.2 with
  | .sub _ _ _ n=>∃ cs,hpOf L' x.1=some ⟨n,[cs]⟩
  | .whole _=>True
section
variable {P:Program} {s:S}
theorem qac (pl:List (Nat×Plc)) {f:Nat} {args argsC:List AV} {L:List (Nat×Ob)} {R:AV→List (Nat×Ob)→Prop} {dst:Option Nat} {K:S→Prop} (en:enters P f=true) (hC:ACall P f argsC L R)
  (h1:mtL (fun _=>none) (pl.map (·.2.id)) (plOf pl) argsC args) (h2:(pl.map (·.2.id)).Nodup) (h3:inAll (fun _=>none) s.h pl L) (h4:∀ x,x∈pl→(hpOf L x.1).isSome=true) (h5:∀ x,x∈pl→(s.h x.2.id).isSome=true)
  (hK:∀ r L',R r L'→∃ φ,OutOk s pl φ L'∧K (qae s pl φ dst r L')):callA P f args dst s K:=by
 refine⟨en,fun _=>none,pl,argsC,L,R,⟨.inr rfl,h1,h2,inAll_spec h3,h4,h5⟩,hC,fun r L' hr=>?_⟩
 obtain⟨φ,ho,hk⟩:=hK r L' hr
 exact⟨φ,⟨.inl rfl,ho.nod,ho.new,ho.unu,ho.kin,ho.sub⟩,hk⟩
theorem callA_vw (pl:List (Nat×Plc)) {f:Nat} {args argsC:List AV} {L:List (Nat×Ob)} {R:AV→List (Nat×Ob)→Prop} {dst:Option Nat} {K:S→Prop} (en:enters P f=true) (hC:ACall P f argsC L R)
  (h1:mtL s.h (pl.map (·.2.id)) (plOf pl) argsC args) (h2:(pl.map (·.2.id)).Nodup) (h3:inAll s.h s.h pl L) (h4:∀ x,x∈pl→(hpOf L x.1).isSome=true) (h5:∀ x,x∈pl→(s.h x.2.id).isSome=true)
  (hK:∀ r L',R r L'→noA r=true∧(∀ x,x∈L'→x.2.els.all noL=true)∧∃ φ,OutOk s pl φ L'∧K (qae s pl φ dst r L')):callA P f args dst s K:=by
 refine⟨en,s.h,pl,argsC,L,R,⟨.inl rfl,h1,h2,inAll_spec h3,h4,h5⟩,hC,fun r L' hr=>?_⟩
 obtain⟨g1,g2,φ,ho,hk⟩:=hK r L' hr
 exact⟨φ,⟨.inr ⟨g1,g2⟩,ho.nod,ho.new,ho.unu,ho.kin,ho.sub⟩,hk⟩
theorem afterS_nil {r:AV} {dst:Option Nat}:qae s [] [] dst r []=⟨putA s.t dst (ren (ren2 [] []) r),s.h,s.u⟩:=by
 simp[qae,Us.app_nil]
theorem callA_vv {f:Nat} {args argsC:List AV} {v:AV} {dst:Option Nat} {K:S→Prop} (en:enters P f=true) (hC:ACall P f argsC [] (fun r L'=>r=v∧L'=[])) (h1:mtL s.h [] (plOf []) argsC args) (hn:noA v=true) (hc:clA v=true)
  (hK:K ⟨putA s.t dst v,s.h,s.u⟩):callA P f args dst s K:=by
 refine callA_vw [] en hC h1 List.nodup_nil trivial (by simp) (by simp) fun r L' ⟨hr,hl⟩=>?_
 subst hr;subst hl
 refine⟨hn,by simp,[],⟨List.nodup_nil,List.nodup_nil,by simp,by simp,by simp⟩,?_⟩
 grind[afterS_nil,renL_closed]
attribute [simp] inAll
@[simp] theorem inMt1_whole (hv h:Hp) (ids:List Nat) (ρ:Nat→Option Plc) (o:Ob) (id:Nat):inMt1 hv h ids ρ o (.whole id)=(∃ O,h id=some O∧O.sz=o.sz∧rowsMt hv ids ρ o.els O.els):=rfl
theorem qad {hv:Hp} {ids:List Nat} {ρ:Nat→Option Plc} {els Els:List (List AV)} (h:els=Els) (hc:clR Els=true):rowsMt hv ids ρ els Els:=.inl (.inl ⟨h,by grind⟩)
@[simp] theorem afterS_t (pl:List (Nat×Plc)) (φ:List (Nat×Nat)) (dst:Option Nat) (r:AV) (L':List (Nat×Ob)):(qae s pl φ dst r L').t=putA s.t dst (ren (ren2 pl φ) r):=rfl
@[simp] theorem afterS_h (pl:List (Nat×Plc)) (φ:List (Nat×Nat)) (dst:Option Nat) (r:AV) (L':List (Nat×Ob)):(qae s pl φ dst r L').h=putH s.h (ren2 pl φ) (remH s.h pl) L':=rfl
@[simp] theorem afterS_u (pl:List (Nat×Plc)) (φ:List (Nat×Nat)) (dst:Option Nat) (r:AV) (L':List (Nat×Ob)):(qae s pl φ dst r L').u=Us.app (φ.map (·.2)) s.u:=rfl
end
end Go.Av

end
section
namespace Go.Av
open Go.RowKit
section
variable {P:Program}
def capOb (o:Ob) (cap:Nat):Ob:=⟨o.sz,o.els++List.replicate (cap-o.els.length) (List.replicate o.sz .top)⟩
theorem ORel.cap {w:World} {Z:Addr→Prop} {γ:Gm} {o:Ob} {r:Rg} {cap:Nat} (hor:ORel w Z γ o r) (hc:cap * r.sz≤r.n):ORel w Z γ (capOb o cap) r:=by
 have hl:(capOb o cap).els.length=max o.els.length cap:=by grind[capOb]
 have hget:∀ e,e<max o.els.length cap→(capOb o cap).els.getD e []=if e<o.els.length then o.els.getD e [] else List.replicate o.sz .top:=fun e he=>by
  grind[capOb]
 refine⟨hor.spot,hor.sz,?_,fun e he=>?_,hor.live,fun e j he hj=>?_,hor.pln⟩
 ·rw[hl]
  show max o.els.length cap * o.sz≤r.n
  rw[hor.sz]at hc
  rcases Nat.le_total o.els.length cap with h | h
  ·grind
  ·have:max o.els.length cap=o.els.length:=by omega
   rw[this];exact hor.fit
 ·rw[hl]at he
  rw[hget e he]
  split
  ·rename_i h;exact hor.len e h
  simp[capOb]
 ·rw[hl]at he
  rw[hget e he]
  by_cases h:e<o.els.length
  ·rw[if_pos h];exact hor.cell e j h hj
  ·have hj':j<o.sz:=hj
   rw[if_neg h]
   have hlt:e * o.sz+j<r.n:=row_lt (len:=cap) (by omega) hj' (by rw[← hor.sz];omega)
   obtain⟨⟨v,hv⟩,_⟩:=hor.live _ hlt
   refine⟨v,hv,?_⟩
   have:(List.replicate o.sz AV.top).getD j .top=.top:=by grind
   rw[this];exact .top _ _
theorem ACall.cap {f id len:Nat} {o:Ob} {args:List AV} {L:List (Nat×Ob)} {R:AV→List (Nat×Ob)→Prop} (hn:∀ x∈L,x.1≠id)
  (h:∀ cap,len≤cap→ACall P f (.slc id 0 len cap::args) ((id,capOb o cap)::L) R):ACall P f (.sl id 0 len::args) ((id,o)::L) R:=by
 intro w Z γ vs hv hh hg
 have h0:=hv.2 0 (by simp)
 obtain⟨cap,hc1,hc2,hrel⟩:∃ cap,len≤cap∧(∀ r,γ id=some r→cap * r.sz≤r.n)∧AVRel w Z γ (.slc id 0 len cap) (vs.getD 0 undef):=by
  generalize vs.getD 0 undef=v at h0
  cases h0 with
  | sl _ _ _ _ cap r hg' hl hc =>
   refine⟨cap,hl,fun r' hr'=>?_,.slc _ _ _ _ _ r hg' hl hc⟩
   grind
  | sl0 _ _ _ a=>exact⟨0,Nat.le_refl _,fun _ _=>by simp,.slc0 _ _ _ _⟩
 have hob:hpOf ((id,o)::L) id=some o:=by simp
 have key:∀ i x,hpOf ((id,capOb o cap)::L) i=some x→(i=id∧x=capOb o cap)∨(i≠id∧hpOf ((id,o)::L) i=some x):=fun i x hx=>by
  grind[hpOf_cons]
 have hsame:∀ i,(hpOf ((id,capOb o cap)::L) i).isSome=(hpOf ((id,o)::L) i).isSome:=fun i=>by
  grind[hpOf_cons]
 have hex:∀ i x,hpOf ((id,capOb o cap)::L) i=some x→∃ y,hpOf ((id,o)::L) i=some y:=fun i x hx=>by
  grind
 have hh2:HRel w Z γ (hpOf ((id,capOb o cap)::L)):=by
  refine⟨fun i x hx=>?_,fun i j o1 o2 r1 r2 hne g1 g2 e1 e2=>?_,fun i x r hx hr=>?_,hh.zlt,hh.gl⟩
  ·rcases key i x hx with⟨rfl,rfl⟩ | ⟨_,hx⟩
   ·obtain⟨r,hr,hor⟩:=hh.obj _ _ hob
    exact⟨r,hr,hor.cap (hc2 r hr)⟩
   ·exact hh.obj i x hx
  ·obtain⟨y1,hy1⟩:=hex _ _ g1
   obtain⟨y2,hy2⟩:=hex _ _ g2
   exact hh.dis i j y1 y2 r1 r2 hne hy1 hy2 e1 e2
  ·obtain⟨y,hy⟩:=hex _ _ hx
   exact hh.zon i y r hy hr
 have hfoot:∀ p,Foot γ (hpOf ((id,capOb o cap)::L)) p↔Foot γ (hpOf ((id,o)::L)) p:=fun p=>by
  constructor
  ·rintro⟨i,x,r,hx,hr,hp⟩
   obtain⟨y,hy⟩:=hex _ _ hx
   exact⟨i,y,r,hy,hr,hp⟩
  ·rintro⟨i,x,r,hx,hr,hp⟩
   have:=hsame i;rw[hx]at this
   cases hy:hpOf ((id,capOb o cap)::L) i with
   | none=>grind
   | some y=>exact⟨i,y,r,hy,hr,hp⟩
 refine(h cap hc1 w Z γ vs ⟨hv.1,fun j hj=>?_⟩ hh2 (fun i r hr=>by grind)).mono ?_
 ·cases j with
  | zero=>grind
  | succ j=>have:=hv.2 (j+1) (by omega);grind
 ·rintro e w' ⟨v,r,L',Z',γ',h1,h2,h3,h4,h5,h6,h7,h8,h9⟩
  refine⟨v,r,L',Z',γ',h1,h2,h3,h4,h5.mono fun i o hf=>(hfoot _).1 hf,h6,h7,fun i x rg hx hr p hp=>(h8 i x rg hx hr p hp).imp _root_.id (hfoot p).1,fun i x hx=>?_⟩
  grind[hpOf]
end
end Go.Av

end
section
namespace Go.Av
open Go.RowKit
section
variable {P:Program}
theorem ACall.nils {f id sz:Nat} {args:List AV} {L:List (Nat×Ob)} {R R':AV→List (Nat×Ob)→Prop} (h:ACall P f args L R) (hid:∀ x∈L,x.1≠id) (hr:∀ r L',R r L'→R' r L'∨(r=.nils∧R' (.sl id 0 0) [(id,⟨sz,[]⟩)])):ACall P f args L R':=by
 intro w Z γ vs hv hh hg
 refine(h w Z γ vs hv hh hg).mono ?_
 rintro e w' ⟨v,r,L',Z',γ',h1,h2,h3,h4,h5,h6,h7,h8,h9⟩
 rcases hr r L' h2 with h | ⟨rfl,h⟩
 ·grind
 ·cases h3
  have one:∀ i x,hpOf [(id,(⟨sz,[]⟩:Ob))] i=some x→i=id∧x=⟨sz,[]⟩:=fun i x hx=>by
   simp_all
  refine⟨_,.sl id 0 0,[(id,⟨sz,[]⟩)],Z',upd γ' id (some ⟨⟨0,0,none⟩,0,sz⟩),h1,h,.sl0 _ _ _ _,⟨fun i x hx=>?_,fun i j o1 o2 r1 r2 hne g1 g2=>?_,fun i x rg hx hr p hp=>?_,h4.zlt,h4.gl⟩,h5,h6,h7,fun i x rg hx hr p hp=>?_,fun i x hx=>?_⟩
  ·obtain⟨rfl,rfl⟩:=one i x hx
   exact⟨_,qaj _ _ _,rfl,rfl,by simp,fun e he=>by grind,fun k hk=>by grind,fun e j he=>by grind,fun _ h2=>by grind⟩
  ·grind
  ·obtain⟨rfl,rfl⟩:=one i x hx
   rw[qaj]at hr;injection hr with hr;subst hr
   obtain⟨_,_,h3,_⟩:=hp;grind
  ·obtain⟨rfl,rfl⟩:=one i x hx
   rw[qaj]at hr;injection hr with hr;subst hr
   obtain⟨_,_,h3,_⟩:=hp;grind
  ·have hne:i≠id:=hid _ (qbl hx)
   grind[qam]
end
end Go.Av

end
section
namespace Go.Av
open Go.RowKit
section
variable {P:Program} {E:Env} {s:S} {Q:Exit→S→Prop}
def cutX {X:Type} (E:Env) (live:List Nat) (st0:X→S) (good:X→Prop) (s':S):Prop :=
 ∃ x,good x∧∃ φ,qab E φ s'∧canon E.ins live φ s'=st0 x
theorem cutX_of {X:Type} {live:List Nat} {st0:X→S} {good:X→Prop} (x:X) (h2:good x) (φ:List (Nat×Nat)) (h3:qab E φ s) (h4:canon E.ins live φ s=st0 x):cutX E live st0 good s:=⟨x,h2,φ,h3,h4⟩
theorem va_cut {a b:ACode} {X:Type} (live:List Nat) (st0:X→S) (good:X→Prop) (ha:ev P E a (thenQ (cutX E live st0 good) Q) s) (hb:∀ x,good x→VA P E b (st0 x) Q):VA P E (.seq a b) s Q:=by
 refine va_seq ((qal a ha).mono fun e s' h=>?_)
 cases e with
 | normal =>
  obtain⟨x,hg,φ,hok,he⟩:=h
  exact va_pre (sw_canon live φ hok.1 hok.2.1 hok.2.2.1 hok.2.2.2) (he ▸ hb x hg)
 | _=>exact h
end
end Go.Av

end
section
namespace Go.Av
open Go.RowKit
section
variable {P:Program} {E:Env} {s:S} {Q:Exit→S→Prop}
def impA (r r2:AV):Prop:=∀ (w:World) (Z:Addr→Prop) (γ:Gm) (v:Value),AVRel w Z γ r v→AVRel w Z γ r2 v
theorem qaz (r:AV):impA r r:=fun _ _ _ _ h=>h
theorem qby (sz:Nat):impA .nils (.lst sz []):=fun w Z γ v h=>by
 cases h
 exact .lst _ sz [] none 0 (fun _ _=>undef) (Nat.le_refl _) (fun h=>absurd rfl h) (fun i hi=>by grind) (fun i j hi=>by grind)
theorem impA_agg1 {a b:AV} (h:impA a b):impA (.agg [a]) (.agg [b]):=fun w Z γ v hr=>by
 cases hr with
 | agg _ _ vs hs hr =>
  refine .agg _ _ _ (by omega) fun j hj=>?_
  have:j=0:=by grind
  subst this;exact h _ _ _ _ (hr 0 (by simp))
theorem impA_tup2 {a b c d:AV} (h1:impA a b) (h2:impA c d):impA (.tup [a,c]) (.tup [b,d]):=fun w Z γ v hr=>by
 cases hr with
 | tup _ _ vs hs hr =>
  refine .tup _ _ _ (by omega) fun j hj=>?_
  match j,hj with
  | 0,_=>exact h1 _ _ _ _ (hr 0 (by simp))
  | 1,_=>exact h2 _ _ _ _ (hr 1 (by simp))
theorem ACall.imp {f:Nat} {args:List AV} {L:List (Nat×Ob)} {R R':AV→List (Nat×Ob)→Prop} (h:ACall P f args L R) (hr:∀ r L',R r L'→∃ r2,impA r r2∧R' r2 L'):ACall P f args L R':=by
 intro w Z γ vs hv hh hg
 refine(h w Z γ vs hv hh hg).mono ?_
 rintro e w' ⟨v,r,L',Z',γ',h1,h2,h3,rest⟩
 obtain⟨r2,hi,h⟩:=hr r L' h2
 exact⟨v,r2,L',Z',γ',h1,h,hi _ _ _ _ h3,rest⟩
theorem ACall.frz {f:Nat} {args:List AV} {R R':AV→List (Nat×Ob)→Prop} (h:ACall P f args [] R) (hr:∀ r L',R r L'→∃ id o,L'=[(id,o)]∧clR o.els=true∧R' (frz id o r) []):ACall P f args [] R':=by
 intro w Z γ vs hv hh hg
 refine(h w Z γ vs hv hh hg).mono ?_
 rintro e w' ⟨v,r,L',Z',γ',h1,h2,h3,h4,h5,h6,h7,h8,h9⟩
 obtain⟨id,o,rfl,hcl,h⟩:=hr r L' h2
 obtain⟨rg,hrg,hor⟩:=h4.obj id o (by simp)
 refine⟨v,Av.frz id o r,[],fun p=>Z' p∨rg.has p,γ',h1,h,h3.frz hrg hor hcl,⟨fun i x hx=>by simp_all,fun i j o1 o2 r1 r2 hne g1=>by simp,fun i x rg hx=>by simp_all,fun p hp=>?_,h4.gl.world (fun _ h=>.inl h) (fun _ _=>rfl)⟩,h5,fun p hp=>.inl (h6 p hp),fun p hp=>?_,fun i x rg hx=>by simp_all,fun i x hx=>by grind⟩
 ·rcases hp with hp | hp
  ·exact h4.zlt p hp
  ·obtain⟨p1,p2,p3,p4⟩:=hp
   obtain⟨⟨u,hu⟩,_⟩:=hor.live (p.off-rg.A.off) (by omega)
   have:=World.block_lt_of_cell? w' _ hu
   grind[at_block]
 ·rcases hp with hp | hp
  ·grind
  ·rcases h8 id o rg (by simp) hrg p hp with h | ⟨i,x,r',hx,_⟩
   all_goals simp_all
end
attribute [simp] frz frzL
end Go.Av
namespace Go.Av
open Go.RowKit
section
variable {P:Program} {E:Env} {s:S} {Q:Exit→S→Prop}
def nextW {X:Type} (E:Env) (st0:X→S) (meas:X→Nat) (good:X→Prop) (x:X) (s':S):Prop:=∃ x',meas x'<meas x∧good x'∧SW E s' (st0 x')
theorem nextW_of {X:Type} {st0:X→S} {meas:X→Nat} {good:X→Prop} {x:X} (x':X) (h1:meas x'<meas x) (h2:good x') (h:SW E s (st0 x')):nextW E st0 meas good x s:=⟨x',h1,h2,h⟩
theorem sw_imp1 (id:Nat) {a b:AV} (ho:s.h id=some ⟨1,[[a]]⟩) (hi:impA a b):SW E s ⟨s.t,upd s.h id (some ⟨1,[[b]]⟩),s.u⟩:=fun cx Z γ ac w hn hin hs=>by
 have key:∀ i x,upd s.h id (some (⟨1,[[b]]⟩:Ob)) i=some x→∃ y,s.h i=some y:=fun i x hx=>by
  grind[qam]
 refine⟨Z,γ,hs.tmp,hs.siz,hs.dfr,⟨fun i x hx=>?_,fun i j o1 o2 r1 r2 hne g1 g2 e1 e2=>?_,fun i x r hx hr=>?_,hs.hp.zlt,hs.hp.gl⟩,hs.fr,fun i x r hx hr=>?_,hs.z0,hs.z1,hs.scp,hs.in0,hs.inp⟩
 ·simp only at hx
  by_cases h:i=id
  ·subst h
   rw[qaj]at hx;injection hx with hx;subst hx
   obtain⟨r,hr,hor⟩:=hs.hp.obj i _ ho
   refine⟨r,hr,hor.spot,hor.sz,hor.fit,fun e he=>by
    grind,hor.live,fun e j he hj=>?_,hor.pln⟩
   obtain⟨v,hv,hrv⟩:=hor.cell e j he hj
   have h0:e=0:=by grind
   have h1:j=0:=by grind
   subst h0;subst h1
   exact⟨v,hv,hi _ _ _ _ hrv⟩
  ·rw[qam _ _ h]at hx;exact hs.hp.obj i x hx
 ·obtain⟨y1,h1⟩:=key _ _ g1
  obtain⟨y2,h2⟩:=key _ _ g2
  exact hs.hp.dis i j y1 y2 r1 r2 hne h1 h2 e1 e2
 ·obtain⟨y,h⟩:=key _ _ hx
  exact hs.hp.zon i y r h hr
 ·obtain⟨y,h⟩:=key _ _ hx
  exact hs.own i y r h hr
theorem sw_can {st:S} (live:List Nat) (φ:List (Nat×Nat)) (h3:qab E φ s) (h4:canon E.ins live φ s=st):SW E s st:=h4 ▸ sw_canon live φ h3.1 h3.2.1 h3.2.2.1 h3.2.2.2
theorem sw_fr {st:S} (id:Nat) {o:Ob} (ho:s.h id=some o) (hcl:o.els.all clL=true) (hni:id ∉ E.ins) (hins:∀ i∈E.ins,(s.h i).isSome=true) (live:List Nat) (φ:List (Nat×Nat)) (h3:qab E φ (frzS id o s)) (h4:canon E.ins live φ (frzS id o s)=st):SW E s st :=
 (sw_frz id ho hcl hni hins).trans (sw_can live φ h3 h4)
def cutW {X:Type} (E:Env) (st0:X→S) (good:X→Prop) (s':S):Prop:=∃ x,good x∧SW E s' (st0 x)
theorem va_cutW {a b:ACode} {X:Type} (st0:X→S) (good:X→Prop) (ha:ev P E a (thenQ (cutW E st0 good) Q) s) (hb:∀ x,good x→VA P E b (st0 x) Q):VA P E (.seq a b) s Q:=by
 refine va_seq ((qal a ha).mono fun e s' h=>?_)
 cases e with
 | normal =>
  obtain⟨x,hg,hsw⟩:=h
  exact va_pre hsw (hb x hg)
 | _=>exact h
theorem qbn {X:Type} {st0:X→S} {good:X→Prop} (x:X) (h2:good x) (h:SW E s (st0 x)):cutW E st0 good s:=⟨x,h2,h⟩
end
attribute [simp] frzS frzO
end Go.Av

end
section
namespace Go.Av
open Go.RowKit
section
variable {P:Program} {E:Env} {s:S} {Q:Exit→S→Prop}
theorem sw_impc (k j:Nat) {sz:Nat} {row:List AV} {b:AV} (hk:s.h k=some ⟨sz,[row]⟩) (hj:j<row.length) (hi:impA (row.getD j .top) b):SW E s ⟨s.t,upd s.h k (some ⟨sz,[row.set j b]⟩),s.u⟩:=fun cx Z γ ac w hn hin hs=>by
 have key:∀ i x,upd s.h k (some (⟨sz,[row.set j b]⟩:Ob)) i=some x→(i=k∧x=⟨sz,[row.set j b]⟩)∨(i≠k∧s.h i=some x):=fun i x hx=>by
  grind[qaj,qam]
 have hex:∀ i x,upd s.h k (some (⟨sz,[row.set j b]⟩:Ob)) i=some x→∃ y,s.h i=some y:=fun i x hx=>by
  grind
 refine⟨Z,γ,hs.tmp,hs.siz,hs.dfr,⟨fun i x hx=>?_,fun i i2 o1 o2 r1 r2 hne g1 g2 e1 e2=>?_,fun i x r hx hr=>?_,hs.hp.zlt,hs.hp.gl⟩,hs.fr,fun i x r hx hr=>?_,hs.z0,hs.z1,hs.scp,hs.in0,hs.inp⟩
 ·rcases key i x hx with⟨rfl,rfl⟩ | ⟨_,h⟩
  ·obtain⟨r0,hr0,hor0⟩:=hs.hp.obj _ _ hk
   refine⟨r0,hr0,hor0.spot,hor0.sz,hor0.fit,fun e he=>?_,hor0.live,fun e j2 he hj2=>?_,hor0.pln⟩
   ·have h0:e=0:=by grind
    subst h0
    have:=hor0.len 0 (by simp)
    grind
   ·have h0:e=0:=by grind
    subst h0
    obtain⟨u,hu,hru⟩:=hor0.cell 0 j2 (by simp) hj2
    refine⟨u,hu,?_⟩
    show AVRel w Z γ ((row.set j b).getD j2 .top) u
    by_cases hjj:j2=j
    ·subst hjj
     rw[List.getD_eq_getElem?_getD,List.getElem?_set_self hj]
     exact hi _ _ _ _ hru
    grind
  ·exact hs.hp.obj i x h
 ·obtain⟨y1,h1⟩:=hex _ _ g1
  obtain⟨y2,h2⟩:=hex _ _ g2
  exact hs.hp.dis i i2 y1 y2 r1 r2 hne h1 h2 e1 e2
 ·obtain⟨y,h⟩:=hex _ _ hx
  exact hs.hp.zon i y r h hr
 ·obtain⟨y,h⟩:=hex _ _ hx
  exact hs.own i y r h hr
end
end Go.Av

end
