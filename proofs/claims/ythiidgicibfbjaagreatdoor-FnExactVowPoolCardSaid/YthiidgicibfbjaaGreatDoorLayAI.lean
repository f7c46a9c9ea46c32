/- Lemmas for the proof, no statement of the seat; no conditions. -/
import Derived.Test.YthiidgicibfbjaaGreatDoorLayAH
import Derived.RangeFuncNested
set_option linter.unusedSimpArgs false
set_option linter.unusedVariables false
set_option linter.unnecessarySimpa false
set_option maxRecDepth 100000
set_option maxHeartbeats 400000
section
namespace Go.Av
open Go.RowKit
section
variable {P:Program} {E:Env} {s:S} {Q:Exit→S→Prop} {K:S→Prop} {d:Option Nat}
theorem qcK (id e:Nat):qgF .nils (.sl id e 0):=fun w Z γ v h=>by
 cases h;exact .sl0 _ _ _ _
theorem qt0 {cs ds:List AV} (hl:cs.length=ds.length) (h:∀ j,j<cs.length→qgF (cs.getD j .top) (ds.getD j .top)):qgF (.agg cs) (.agg ds):=fun w Z γ v hr=>by
 cases hr with
 | agg _ _ vs hs hr=>exact .agg _ _ _ (by rw[hs,hl]) fun j hj=>h j (by omega) w Z γ _ (hr j (by omega))
theorem qtZ {cs ds:List AV} (hl:cs.length=ds.length) (h:∀ j,j<cs.length→qgF (cs.getD j .top) (ds.getD j .top)):qgF (.tup cs) (.tup ds):=fun w Z γ v hr=>by
 cases hr with
 | tup _ _ vs hs hr=>exact .tup _ _ _ (by rw[hs,hl]) fun j hj=>h j (by omega) w Z γ _ (hr j (by omega))
inductive impL:List AV→List AV→Prop
 | nil:impL [] []
 | cons {a b:AV} {r q:List AV} (h:qgF a b) (t:impL r q):impL (a::r) (b::q)
theorem qh1 {cs ds:List AV} (h:impL cs ds):cs.length=ds.length∧∀ j,qgF (cs.getD j .top) (ds.getD j .top):=by
 induction h with
 | nil=>exact⟨rfl,fun j=>by simpa using qaE _⟩
 | cons h t ih =>
  refine⟨by simp[ih.1],fun j=>?_⟩;cases j with
  | zero=>simpa using h
  | succ j=>simpa using ih.2 j
theorem qiU {cs ds:List AV} (h:impL cs ds):qgF (.agg cs) (.agg ds):=qt0 (qh1 h).1 fun j _=>(qh1 h).2 j
theorem qdl {cs ds:List AV} (h:impL cs ds):qgF (.tup cs) (.tup ds):=qtZ (qh1 h).1 fun j _=>(qh1 h).2 j
theorem qeP (id sz:Nat) (hu:id ∉ s.u):SW E s ⟨s.t,upd s.h id (some ⟨sz,[]⟩),Us.cons id s.u⟩:=fun cx Z γ a w hn hin hs=>by
 have hg:γ id=none:=by
  cases hgd:γ id with
  | none=>rfl
  | some r=>exact absurd (hs.scp id r hgd) hu
 have hgm:∀ i s,γ i=some s→upd γ id (some ⟨⟨0,0,none⟩,0,sz⟩) i=some s:=by
  intro i s hs;by_cases hi:i=id
  ·subst hi;rw[hg]at hs;cases hs
  ·rw[qay _ _ hi];exact hs
 have key:∀ i o r,i≠id→upd s.h id (some ⟨sz,[]⟩) i=some o→upd γ id (some ⟨⟨0,0,none⟩,0,sz⟩) i=some r→s.h i=some o∧γ i=some r:=fun i o r hi ho hr=>by
  rw[qay _ _ hi]at ho hr;exact⟨ho,hr⟩
 refine⟨Z,upd γ id (some ⟨⟨0,0,none⟩,0,sz⟩),fun i=>(hs.tmp i).gmono hgm,hs.siz,hs.dfr,⟨fun i o ho=>?_,fun i j o1 o2 s1 s2 hne h1 h2 g1 g2=>?_,fun i o r ho hr p hp=>?_,hs.hp.zlt,hs.hp.gl⟩,hs.fr,fun i o r ho hr p hp=>?_,hs.z0,hs.z1,fun i r hr=>?_,hs.in0,hs.inp_u hu⟩
 ·by_cases hi:i=id
  ·subst hi;simp only at ho;rw[qat]at ho ⊢;injection ho with ho;subst ho;exact⟨_,rfl,rfl,rfl,by simp,fun e he=>by simp at he,fun k hk=>by simp at hk,fun e j he=>by simp at he,fun _ h2=>by simp at h2⟩
  ·simp only at ho;rw[qay _ _ hi]at ho;obtain⟨r,hr,hor⟩:=hs.hp.obj i o ho;exact⟨r,hgm _ _ hr,hor.spot,hor.sz,hor.fit,hor.len,hor.live,fun k j hk hj=>by
    obtain⟨v,hv,hrv⟩:=hor.cell k j hk hj;exact⟨v,hv,hrv.gmono hgm⟩,hor.pln⟩
 ·by_cases hi:i=id
  ·subst hi;rw[qat]at g1;injection g1 with g1;subst g1;exact .inl rfl
  ·by_cases hj:j=id
   ·subst hj;rw[qat]at g2;injection g2 with g2;subst g2;exact .inr (.inl rfl)
   ·obtain⟨a1,a2⟩:=key i o1 s1 hi h1 g1;obtain⟨b1,b2⟩:=key j o2 s2 hj h2 g2;exact hs.hp.dis i j o1 o2 s1 s2 hne a1 b1 a2 b2
 ·by_cases hi:i=id
  ·subst hi;rw[qat]at hr;injection hr with hr;subst hr;have:=hp.2.2.1;have:=hp.2.1;simp only at *;omega
  ·obtain⟨a1,a2⟩:=key i o r hi ho hr;exact hs.hp.zon i o r a1 a2 p hp
 ·by_cases hi:i=id
  ·subst hi;rw[qat]at hr;injection hr with hr;subst hr;have:=hp.2.2.1;have:=hp.2.1;simp only at *;omega
  ·obtain⟨a1,a2⟩:=key i o r hi ho hr;exact hs.own i o r a1 a2 p hp
 ·by_cases hi:i=id
  ·subst hi;exact .inl rfl
  ·rw[qay _ _ hi]at hr;exact .inr (hs.scp i r hr)
theorem ACall.can {f:Nat} {args:List AV} {L:List (Nat×Ob)} {R R':AV→List (Nat×Ob)→Prop} (h:ACall P f args L R)
  (hr:∀ r L',R r L'→∃ φ:List (Nat×Nat),(∀ p∈φ,(qaQ L' p.1).isSome=true)∧(φ.map (·.2)).Nodup∧(∀ p∈φ,p.2∈L.map (·.1)→p.1=p.2)∧(φ.map (·.1)).Nodup∧R' (ren (rho φ) r) (φ.map fun p=>(p.2,qah (rho φ) (qaQ L' p.1)))):ACall P f args L R':=by
 intro w Z γ vs hv hh hg;refine(h w Z γ vs hv hh hg).mono ?_;rintro e w' ⟨v,r,L',Z',g1,rfl,k2,k3,k4,k5,k6,k7,k8,k9⟩;obtain⟨φ,h1,h2,h3,h4,hR⟩:=hr r L' k2
 let γ':Gm:=fun id=>if id∈L.map (·.1) then g1 id else match qdB φ id with
  | some old=>g1 old
  | none=>none
 have hmem:∀ {o n},(o,n)∈φ→γ' n=g1 o:=fun {o n} hm=>by
  show(if n∈L.map (·.1) then g1 n else match qdB φ n with | some old=>g1 old | none=>none)=g1 o
  split
  ·rename_i hin;have:=h3 _ hm hin;simp only at this;rw[this]
  ·rw[qgc h2 hm]
 have hok:quQ g1 γ' (rho φ):=fun c=>by
  unfold rho;cases hc:qou φ c with
  | none=>simp
  | some id =>
   simp only[qFX];intro r hr;rw[hmem (qfl hc)];exact hr
 have hob:∀ id o,qaQ (φ.map fun p=>(p.2,qah (rho φ) (qaQ L' p.1))) id=some o→∃ old oo,(old,id)∈φ∧qaQ L' old=some oo∧o=qbH (rho φ) oo:=fun id o ho=>by
  have:=qbx ho;simp only[qGt,qFR]at this;obtain⟨p,hp,e1,e2⟩:=this;have h5:=h1 p hp;cases hx:qaQ L' p.1 with
  | none=>simp[hx]at h5
  | some oo =>
   rw[hx]at e2;obtain⟨p1,p2⟩:=p;subst e1;exact⟨p1,oo,hp,hx,e2.symm⟩
 refine⟨v,_,_,Z',γ',rfl,hR,k3.ren hok,⟨fun id o ho=>?_,fun i j o1 o2 r1 r2 hne g1 g2 e1 e2=>?_,fun id o r ho hr=>?_,k4.zlt,k4.gl⟩,k5,k6,k7,fun id o r ho hr=>?_,fun id o ho=>?_⟩
 ·obtain⟨old,oo,hm,hoo,rfl⟩:=hob id o ho;obtain⟨r,hr,hor⟩:=k4.obj old oo hoo;refine⟨r,(hmem hm).trans hr,hor.spot,hor.sz,by simpa [qbH]using hor.fit,fun e he=>?_,hor.live,fun e j he hj=>?_,hor.pln⟩
  ·simp only[qbH,qG4]at he;have e1:(oo.els.map (qb6 (rho φ))).getD e []=qb6 (rho φ) (oo.els.getD e []):=by simp[List.getD,he]
   simp only[qbH,e1,qbd];exact hor.len e he
  ·simp only[qbH,qG4]at he hj;obtain⟨v,hv,hr'⟩:=hor.cell e j he hj;have e1:(oo.els.map (qb6 (rho φ))).getD e []=qb6 (rho φ) (oo.els.getD e []):=by simp[List.getD,he]
   refine⟨v,hv,?_⟩;simp only[qbH,e1,qdd];exact hr'.ren hok
 ·obtain⟨old1,oo1,hm1,hoo1,rfl⟩:=hob i o1 g1;obtain⟨old2,oo2,hm2,hoo2,rfl⟩:=hob j o2 g2;rw[hmem hm1]at e1;rw[hmem hm2]at e2;refine k4.dis old1 old2 oo1 oo2 r1 r2 (fun e=>?_) hoo1 hoo2 e1 e2;subst e;apply hne;exact qiN h4 hm1 hm2
 ·obtain⟨old,oo,hm,hoo,rfl⟩:=hob id o ho;rw[hmem hm]at hr;exact k4.zon old oo r hoo hr
 ·obtain⟨old,oo,hm,hoo,rfl⟩:=hob id o ho;rw[hmem hm]at hr;exact k8 old oo r hoo hr
 ·show(if id∈L.map (·.1) then g1 id else match qdB φ id with | some old=>g1 old | none=>none)=_
  rw[if_pos (qGt.2 ⟨_,qbx ho,rfl⟩)];exact k9 id o ho
theorem qmh {id i:Nat} {o x:Ob} {L:List (Nat×Ob)} (hid:id ∉ L.map (·.1)) (h:qaQ L i=some x):i≠id∧qaQ ((id,o)::L) i=some x:=by
 have hm:=qbx h;have:i≠id:=by rintro rfl;exact hid (qGt.2 ⟨_,hm,rfl⟩)
 exact⟨this,by simp[this,h]⟩
theorem ACall.frz1 {f:Nat} {args:List AV} {R R':AV→List (Nat×Ob)→Prop} (h:ACall P f args [] R)
  (hr:∀ r L',R r L'→R' r L'∨∃ id o L2,L'=(id,o)::L2∧id ∉ L2.map (·.1)∧clR o.els=true∧(∀ x∈L2,clR x.2.els=true)∧R' (Av.frz id o r) L2):ACall P f args [] R':=by
 intro w Z γ vs hv hh hg;refine(h w Z γ vs hv hh hg).mono ?_;rintro e w' ⟨v,r,L',Z',γ',h1,h2,h3,h4,h5,h6,h7,h8,h9⟩;rcases hr r L' h2 with hk | ⟨id,o,L2,rfl,hid,hcl,hcl2,hR⟩
 ·exact⟨v,r,L',Z',γ',h1,hk,h3,h4,h5,h6,h7,h8,h9⟩
 obtain⟨rg,hrg,hor⟩:=h4.obj id o (by simp);have hup:∀ {i x},qaQ L2 i=some x→i≠id∧qaQ ((id,o)::L2) i=some x:=fun h=>qmh hid h;refine⟨v,Av.frz id o r,L2,fun p=>Z' p∨rg.has p,γ',h1,hR,h3.frz hrg hor hcl,⟨fun i x hx=>?_,fun i j o1 o2 r1 r2 hne g1 g2=>?_,fun i x r' hx hr' p hp=>?_,fun p hp=>?_,h4.gl.world (fun _ h=>.inl h) (fun _ _=>rfl)⟩,h5,fun p hp=>.inl (h6 p hp),fun p hp=>?_,fun i x r' hx=>?_,h9⟩
 ·obtain⟨hi,hx'⟩:=hup hx;obtain⟨r',hr',hor'⟩:=h4.obj i x hx';refine⟨r',hr',hor'.spot,hor'.sz,hor'.fit,hor'.len,hor'.live,fun e j he hj=>?_,hor'.pln⟩;obtain⟨u,hu,hru⟩:=hor'.cell e j he hj;exact⟨u,hu,hru.world (fun b hb=>.inl hb) (fun p _=>rfl)⟩
 ·exact h4.dis i j o1 o2 r1 r2 hne (hup g1).2 (hup g2).2
 ·obtain⟨hi,hx'⟩:=hup hx;rintro(hz | hz)
  ·exact h4.zon i x r' hx' hr' p hp hz
  ·exact Rg.apart_has (h4.dis i id x o r' rg hi hx' (by simp) hr' hrg) hp hz
 ·rcases hp with hp | hp
  ·exact h4.zlt p hp
  ·obtain⟨p1,p2,p3,p4⟩:=hp;obtain⟨⟨u,hu⟩,_⟩:=hor.live (p.off-rg.A.off) (by omega);have:=World.block_lt_of_cell? w' _ hu;simp only[qih]at this;omega
 ·rcases hp with hp | hp
  ·exact h7 p hp
  ·rcases h8 id o rg (by simp) hrg p hp with h | ⟨i,x,r',hx,_⟩
   ·exact .inr h
   ·simp at hx
 ·exact h8 i x r' (hup hx).2
def qa7:List (Nat×Ob)→AV→AV
 | [],r=>r
 | (id,o)::L,r=>qa7 L (Av.frz id o r)
theorem ACall.frzs {f:Nat} {args:List AV} {R:AV→List (Nat×Ob)→Prop} {R':AV→Prop} (h:ACall P f args [] R)
  (hr:∀ r L',R r L'→L'.length≤20∧(L'.map (·.1)).Nodup∧(∀ x∈L',clR x.2.els=true)∧∃ v,qgF (qa7 L' r) v∧R' v):ACall P f args [] (fun r L'=>R' r∧L'=[]):=by
 have key:∀ (n:Nat) (R:AV→List (Nat×Ob)→Prop),ACall P f args [] R →
   (∀ r L',R r L'→L'.length≤n∧(L'.map (·.1)).Nodup∧(∀ x∈L',clR x.2.els=true)∧∃ v,qgF (qa7 L' r) v∧R' v)→ACall P f args [] (fun r L'=>R' r∧L'=[]):=by
  intro n
  induction n with
  | zero =>
   intro R h hr;refine h.imp fun r L' hR=>?_;obtain⟨hl,_,_,v,hi,hv⟩:=hr r L' hR;have:L'=[]:=qHM (by omega);subst this;exact⟨v,hi,hv,rfl⟩
  | succ n ih =>
   intro R h hr;refine ih (fun r L'=>L'.length≤n∧(L'.map (·.1)).Nodup∧(∀ x∈L',clR x.2.els=true)∧∃ v,qgF (qa7 L' r) v∧R' v) (h.frz1 fun r L' hR=>?_) fun r L' h=>h;obtain⟨hl,hn,hc,v,hi,hv⟩:=hr r L' hR;cases L' with
   | nil=>exact .inl ⟨by simp,hn,hc,v,hi,hv⟩
   | cons x L2 =>
    obtain⟨id,o⟩:=x;simp only[qGs,qHp,qHq,qGk]at hn hc hl;exact .inr ⟨id,o,L2,rfl,hn.1,hc _ (.inl rfl),fun x hx=>hc x (.inr hx),by omega,hn.2,fun x hx=>hc x (.inr hx),v,hi,hv⟩
 exact key 20 R h hr
theorem CV.of_frz {f:Nat} {args:List AV} {v:AV} {R:AV→List (Nat×Ob)→Prop} (h:ACall P f args [] R)
  (hr:∀ r L',R r L'→L'.length≤20∧(L'.map (·.1)).Nodup∧(∀ x∈L',clR x.2.els=true)∧qgF (qa7 L' r) v) (he:qb1 P f=true:=by kernel_rfl) (hca:clL args=true:=by simp) (hcv:clA v=true:=by simp):CV P f args v :=
 ⟨he,hca,hcv,ACall.frzs (R':=fun r=>r=v) h fun r L' hR=>by
  obtain⟨h1,h2,h3,h4⟩:=hr r L' hR;exact⟨h1,h2,h3,v,h4,rfl⟩⟩
theorem CV.view {f:Nat} {args argsC:List AV} {v:AV} (h:CV P f argsC v) (h1:mtL s.h [] (qcH []) argsC args) (hK:K ⟨qcC s.t d v,s.h,s.u⟩) (hn:noA v=true:=by simp):qjs P f args d s K:=qc9 h.en h.c h1 hn h.cv hK
structure CW (P:Program) (f:Nat) (args:List AV) (o:Ob) (v:AV):Prop where
 en:qb1 P f=true
 cv:clA v=true
 co:clR o.els=true
 c:ACall P f args [(1000,o)] (fun r L'=>r=v∧L'=[(1000,o)])
theorem qog {ρ:Nat→Option Plc} {o:Ob} (h:clR o.els=true):qbH ρ o=o:=by
 unfold qbH;have:o.els.map (qb6 ρ)=o.els:=by
  conv=>rhs;rw[← List.map_id o.els]
  refine qGD fun r hr=>?_;exact renL_closed.renL_closedL ρ r (qGf.1 h r hr)
 rw[this]
theorem CW.call {f:Nat} {args args':List AV} {o:Ob} {v:AV} (h:CW P f args o v) (id:Nat) (hid:s.h id=some o) (hm:mtL (fun _=>none) [id] (qcH [(1000,.whole id)]) args args') (hK:K ⟨qcC s.t d v,s.h,s.u⟩):qjs P f args' d s K:=by
 refine qac [(1000,.whole id)] h.en h.c hm (by simp) ⟨⟨o,hid,rfl,qaa rfl h.co⟩,trivial⟩ (by simp) (by simp[hid]) ?_;rintro r L' ⟨rfl,rfl⟩;refine⟨[],⟨by simp,by simp,by simp,by simp,by simp⟩,?_⟩;have e1:qaf s [(1000,.whole id)] [] d r [(1000,o)]=⟨qcC s.t d r,s.h,s.u⟩:=by
  simp only[qaf,qoo,qrs,qgD,qcH,if_true,qmW,qHF,Us.app_nil,renL_closed _ _ h.cv,qog h.co]
  congr 1
  funext i
  simp only[upd];split
  ·rename_i hi;rw[hi,hid]
  ·rfl
 rw[e1];exact hK
theorem qgH {α:Type} {l:List α} {x:α} {i:Nat} (h:l[i]?=some x):l.take (i+1)=l.take i++[x]:=by
 rw[qHN,h];rfl
theorem tk1 {α β:Type} {l:List α} {x:α} {i:Nat} (f:α→β) (h:l[i]?=some x):List.take (i+1) (l.map f)=List.take i (l.map f)++[f x]:=by
 rw[qHN,qGw,h];rfl
def hdO (ins live:List Nat) (s:S) (up:List (Nat×AV)) (hp:List (Nat×Ob)):S :=
 ⟨mkT (live.map fun i=>(i,(qdQ up i).getD (s.t i))),qaQ hp,Us.of (ins++hp.map (·.1))⟩
attribute [simp] hdO
theorem qaM {a:ACode} {X:Type} (live:List Nat) (φ:List (Nat×Nat)) (up:X→List (Nat×AV)) (hp:X→List (Nat×Ob)) (meas:X→Nat) (good:X→Prop) (x0:X)
  (hg:good x0) (round:∀ x,good x→ev P E a (qfv (qrK E live (fun x=>hdO E.ins live s (up x) (hp x)) meas good x) Q) (hdO E.ins live s (up x) (hp x)))
  (h0:qae E φ s:=by simp) (he:qao E.ins live φ s=hdO E.ins live s (up x0) (hp x0):=by simp):ev P E (.loop a) Q s :=
 qaR live (fun x=>hdO E.ins live s (up x) (hp x)) meas good x0 ⟨hg,φ,h0,he⟩ round
theorem qe8 {a:ACode} {s':S} (hw:SW E s s') (h:ev P E (.loop a) Q s'):ev P E (.loop a) Q s:=qqq hw h
end
end Go.Av
end
section
namespace Go.Av
open Go.RowKit
section
variable {P:Program} {E:Env} {s:S} {Q:Exit→S→Prop} {K:S→Prop} {d:Option Nat}
theorem cwx {f:Nat} {fn:Func} {b:Code} {ac:ACode} {n:Nat} {rs:List ResultVar} {args:List AV} {o:Ob} {v:AV} (hf:P.funcs[f]?=some fn) (pl:List (Nat×List Itm)) (hn:fn.ntmps=n) (hb:fn.body=some b)
  (hc:cp n pl b=some ac) (hr:fn.results.toList=rs)
  (h:ev P ⟨n,[1000]⟩ ac (qof P rs (fun r L'=>r=v∧L'=[(1000,o)])) ⟨qsT args,qaQ [(1000,o)],Us.of [1000]⟩) (hk:qgT pl fn=true:=by kernel_rfl) (hbd:hasBody P f=true:=by kernel_rfl) (he:qb1 P f=true:=by kernel_rfl) (ha:args.length≤n:=by simp) (hcv:clA v=true:=by simp) (hco:clR o.els=true:=by simp):CW P f args o v :=
 ⟨he,hcv,hco,acx hf pl hn hb hc hr h hk hbd ha (by simp)⟩
end
end Go.Av
end
section
namespace Go.Av
open Go.RowKit
theorem qyA {a b:List (List AV)} (h1:clR a=true) (h2:clR b=true):clR (a++b)=true:=by
 simp only[clR,qHO,Bool.and_eq_true]at *;exact⟨h1,h2⟩
theorem quD {a:List (List AV)} (n:Nat) (h:clR a=true):clR (a.take n)=true:=by
 simp only[clR,qGf]at *;exact fun x hx=>h x (qHP hx)
theorem acv {P:Program} {f:Nat} {fn:Func} {b:Code} {ac:ACode} {n:Nat} {rs:List ResultVar} {args:List AV} {L:List (Nat×Ob)} {R:AV→List (Nat×Ob)→Prop} (hf:P.funcs[f]?=some fn) (pl:List (Nat×List Itm)) (hn:fn.ntmps=n) (hb:fn.body=some b)
  (hc:cp n pl b=some ac) (hr:fn.results.toList=rs)
  (h:VA P ⟨n,L.map (·.1)⟩ ac ⟨qsT args,qaQ L,Us.of (L.map (·.1))⟩ (qof P rs R)) (hk:qgT pl fn=true:=by kernel_rfl) (hbd:hasBody P f=true:=by kernel_rfl) (ha:args.length≤n:=by simp) (hL:(L.map (·.1)).Nodup:=by simp):ACall P f args L R :=
 qsV hbd n (qqj pl b) rs hf (by rw[hb];exact(qBQ n pl (qqj pl b) b (by rw[← hn];unfold qgT at hk;rw[hb]at hk;exact hk)).symm.trans hc) hn hr ha hL h
theorem qp5 {w w':World} (h:Below w.heap.size w w') {p:Addr} (hp:p.block<w.heap.size):w'.cell? p=w.cell? p:=by
 simp only[World.cell?,h.block p.block hp]
theorem qnG {P:Program} {f:Nat} {args:List AV} {v:AV}
  (h:∀ (w:World) (Z:Addr→Prop) (vs:Array Value),CRel w Z noG args vs→GlR w Z→(∀ p,Z p→p.block<w.heap.size)→Calls P f vs w fun e w'=>∃ u Z',e=.returned u∧AVRel w' Z' noG v u∧Below w.heap.size w w'∧(∀ p,Z p→Z' p)∧∀ p,Z' p→Z p∨w.heap.size≤p.block∧p.block<w'.heap.size)
  (he:qb1 P f=true:=by kernel_rfl) (hb:hasBody P f=true:=by kernel_rfl) (hca:clL args=true:=by simp) (hcv:clA v=true:=by simp):CV P f args v:=by
 refine⟨he,hca,hcv,fun w Z γ vs hv hh hg=>.inl ⟨hb,(h w Z vs ⟨hv.1,fun j hj=>(hv.2 j hj).closed (qc8 _ _ hca)⟩ hh.gl hh.zlt).mono ?_⟩⟩;rintro e w' ⟨u,Z',rfl,hr,hbl,h1,h2⟩;refine⟨u,v,[],Z',noG,rfl,⟨rfl,rfl⟩,hr,⟨fun i o ho=>by simp at ho,fun i j o1 o2 r1 r2 _ g1=>by simp at g1,fun i o r ho=>by simp at ho,fun p hp=>?_,hh.gl.world h1 fun p hp=>qp5 hbl (hh.zlt p hp)⟩,.of_below hbl,h1,fun p hp=>(h2 p hp).imp id And.left,fun i o r ho=>by simp at ho,fun i o ho=>by simp at ho⟩;rcases h2 p hp with h | ⟨_,h⟩
 ·exact qFO (hh.zlt p h) hbl.size
 ·exact h
theorem qcl {P:Program} {f:Nat} {args:List AV} {v:AV}
  (h:∀ (w:World) (Z:Addr→Prop) (vs:Array Value),CRel w Z noG args vs→GlR w Z→(∀ p,Z p→p.block<w.heap.size)→Calls P f vs w fun e w'=>∃ u,e=.returned u∧AVRel w' Z noG v u∧Below w.heap.size w w')
  (he:qb1 P f=true:=by kernel_rfl) (hb:hasBody P f=true:=by kernel_rfl) (hca:clL args=true:=by simp) (hcv:clA v=true:=by simp):CV P f args v :=
 qnG (fun w Z vs h1 h2 h3=>(h w Z vs h1 h2 h3).mono fun e w' ⟨u,a,b,c⟩=>⟨u,Z,a,b,c,fun _ h=>h,fun _ h=>.inl h⟩) he hb hca hcv
theorem qyp {w:World} {Z:Addr→Prop} {γ:Gm} {a:AV} {vs:Array Value} (h:CRel w Z γ [a] vs):∃ x,vs=#[x]∧AVRel w Z γ a x:=by
 obtain⟨hs,hr⟩:=h;have h0:=hr 0 (by simp);refine⟨vs.getD 0 undef,?_,by simpa using h0⟩;apply qHH
 ·simpa using hs
 ·intro i h1 h2;have:i=0:=by simp at h2;omega
  subst this;simp[Array.getD,h1]
theorem qsF {w:World} {Z:Addr→Prop} {γ:Gm} {a b:AV} {vs:Array Value} (h:CRel w Z γ [a,b] vs):∃ x y,vs=#[x,y]∧AVRel w Z γ a x∧AVRel w Z γ b y:=by
 obtain⟨hs,hr⟩:=h;have h0:=hr 0 (by simp);have h1:=hr 1 (by simp);refine⟨vs.getD 0 undef,vs.getD 1 undef,?_,by simpa using h0,by simpa using h1⟩;apply qHH
 ·simpa using hs
 ·intro i g1 g2;have:i=0∨i=1:=by simp at g2;omega
  rcases this with rfl | rfl <;> simp[Array.getD,g1]
theorem qBt {w:World} {Z:Addr→Prop} (h:GlR w Z) {g:Nat} {cs:List AV} (hg:gtab g=some cs) (vs:List Value) (hl:vs.length=cs.length) (hv:∀ (x:Value) j,j<cs.length→AVRel w Z noG (cs.getD j .top) x→x=vs.getD j undef) (hne:cs≠[]) :
  ∃ ty fz,w.heap[g]?=some (.cells vs.toArray ty fz):=by
 obtain⟨h1,h2,h3⟩:=h g cs hg;generalize hp:(Value.pointer (some ⟨g,0,none⟩))=u at h1;cases h1 with
 | elm _ _ A vf hA hz hc hr =>
  injection hp with hp;injection hp with hp;subst hp;have hlen:0<cs.length:=qFZ.2 hne;have c0:=hc 0 hlen;simp only[World.cell?,Addr.at,qGY,qHc]at c0 h3;cases hh:w.heap[g]? with
  | none=>simp[hh]at c0
  | some o =>
   cases o with
   | cells c ty fz =>
    refine⟨ty,fz,?_⟩;simp only[hh]at h3;have hsz:c.size≤cs.length:=by
     rcases qGO cs.length c.size with h | h
     ·simp[qHJ h]at h3
     ·exact h
    congr 2
    apply qFP;intro i;by_cases hi:i<cs.length
    ·have ci:c[i]?=some (vf i):=by simpa [World.cell?,Addr.at,hh]using hc i hi
     rw[ci];have:=hv (vf i) i hi (hr i hi);rw[this];simp[List.getD,hl,hi]
    ·rw[qG0 (by omega),qG0 (by simp;omega)]
   | _=>simp[hh]at c0
theorem qoG {E:List (List AV)} (ρ:Nat→Option Plc) (h:clR E=true):E.map (qb6 ρ)=E:=by
 induction E with
 | nil=>rfl
 | cons a r ih =>
  simp only[clR,qHm,Bool.and_eq_true]at h;rw[qGs,renL_closed.renL_closedL ρ a h.1,ih (by simpa [clR]using h.2)]
end Go.Av
end
section
namespace Go.Av
open Go.RowKit
theorem AVRel.world2 {w w':World} {Z:Addr→Prop} (hw:∀ (p:Addr) v,w.cell? p=some v→w'.cell? p=some v) {γ:Gm} {av:AV} {v:Value} (h:AVRel w Z γ av v):AVRel w' Z γ av v:=by
 induction h with
 | top=>exact .top _ _
 | int=>exact .int _ _ _
 | bool=>exact .bool _ _
 | str=>exact .str _ _
 | nilp=>exact .nilp _
 | nils=>exact .nils _
 | nili=>exact .nili _
 | ifc=>exact .ifc _ _ _
 | anyb=>exact .anyb _ _
 | agg γ cs vs hs _ ih=>exact .agg _ _ _ hs ih
 | tup γ cs vs hs _ ih=>exact .tup _ _ _ hs ih
 | ptr γ id e off r hg=>exact .ptr _ _ _ _ r hg
 | sl γ id e len cap r hg hl hc=>exact .sl _ _ _ _ _ r hg hl hc
 | bsl γ id e off esz n r hg=>exact .bsl _ _ _ _ _ _ r hg
 | sl0=>exact .sl0 _ _ _ _
 | slc γ id e len cap r hg hl hc=>exact .slc _ _ _ _ _ r hg hl hc
 | slc0=>exact .slc0 _ _ _ _
 | lst γ sz els a cap vf hl hc hs _ ih =>
  refine .lst _ _ _ _ _ vf hl (fun hn=>?_) hs ih;obtain⟨A,ha,hz,hA,hcell⟩:=hc hn;exact⟨A,ha,hz,hA,fun i j hi hj=>hw _ _ (hcell i j hi hj)⟩
 | elm γ cs A vf hA hz hc _ ih=>exact .elm _ _ _ vf hA hz (fun j hj=>hw _ _ (hc j hj)) ih
 | fn γ f cs vs hs _ ih=>exact .fn _ _ _ _ hs ih
section
variable {P:Program} {w W W':World} {Z:Addr→Prop} {γ:Gm} {c:Cx} {s:S} {a:Act}
theorem SRel.grown (hs:SRel c s Z γ a W) {B:Nat} {row:Option Nat} (hg:W.grownBy W' row) (hr:∀ r,row=some r→B≤r∧∃ o:Obj,W.heap[r]?=some o∧o.isCells=false)
  (hB:c.w0.heap.size≤B) (hD:∀ D,mkD D∈a.defers→D<B) (hG:∀ g cs,gtab g=some cs→g<B):SRel c s Z γ a W':=by
 have hrow:∀ k,k<W.heap.size→k<B∨(∀ r,row=some r→r≠k)→W'.heap[k]?=W.heap[k]?:=fun k hk h=>hg.block k hk fun e=>by
  rcases h with h | h
  ·have:=(hr k e.symm).1;omega
  ·exact h k e.symm rfl
 have hnr:∀ (p:Addr) v,W.cell? p=some v→∀ r,row=some r→r≠p.block:=fun p v hv r e hrp=>by
  obtain⟨_,o,ho,hc⟩:=hr r e;subst hrp;unfold World.cell? at hv;rw[ho]at hv;cases o <;> simp_all [Obj.isCells]
 have hblk:∀ (p:Addr) v,W.cell? p=some v→W'.heap[p.block]?=W.heap[p.block]?:=fun p v hv=>hrow _ (World.block_lt_of_cell? W _ hv) (.inr (hnr p v hv));have hcell:∀ (p:Addr) v,W.cell? p=some v→W'.cell? p=some v:=fun p v hv=>by rw[World.cell?_of_block (hblk p v hv)];exact hv
 obtain⟨Ds,e1,e2,e3⟩:=hs.dfr;refine⟨fun i=>(hs.tmp i).world2 hcell,hs.siz,⟨Ds,e1,e2,fun D hDm=>⟨(e3 D hDm).1,?_⟩⟩,⟨fun id o ho=>?_,hs.hp.dis,hs.hp.zon,fun p hp=>qFO (hs.hp.zlt p hp) hg.size,fun g cs hgt=>?_⟩,⟨hg.os.trans hs.fr.os,hg.tape.trans hs.fr.tape,hg.output.trans hs.fr.output,qFN hs.fr.size hg.size,fun b hb=>?_⟩,hs.own,hs.z0,hs.z1,hs.scp,hs.in0,hs.inp⟩
 ·have h1:=(e3 D hDm).2;rw[hrow D (qGJ.1 h1).1 (.inl (hD D (by rw[e1];exact qGt.2 ⟨D,hDm,rfl⟩)))];exact h1
 ·obtain⟨r,hr1,hor⟩:=hs.hp.obj id o ho;refine⟨r,hr1,hor.spot,hor.sz,hor.fit,hor.len,fun k hk=>?_,fun e j he hj=>?_,fun h1 h2 k=>?_⟩
  ·obtain⟨⟨v,hv⟩,hf⟩:=hor.live k hk;exact⟨⟨v,hcell _ _ hv⟩,by rw[World.frozen?_of_block (hblk _ _ hv)];exact hf⟩
  ·obtain⟨v,hv,hr2⟩:=hor.cell e j he hj;exact⟨v,hcell _ _ hv,hr2.world2 hcell⟩
  ·obtain⟨⟨v,hv⟩,_⟩:=hor.live 0 h2;have hb:=hblk _ _ hv;rw[World.frozen?_of_block (a:=⟨r.A.block,k,none⟩) hb];exact hor.pln h1 h2 k
 ·obtain⟨g1,g2,g3⟩:=hs.hp.gl g cs hgt;refine⟨g1.world2 hcell,g2,?_⟩;rw[World.cell?_of_block (a:=⟨g,cs.length,none⟩) (hrow g (hs.hp.zlt _ g2) (.inl (hG g cs hgt)))];exact g3
 ·rw[hrow b (qFO hb hs.fr.size) (.inl (by omega))];exact hs.fr.blk b hb
theorem CallIn.far {hv:Hp} {pl:List (Nat×Plc)} {args argsC:List AV} {L:List (Nat×Ob)} (hin:CallIn s hv pl args argsC L) (hs:SRel c s Z γ a w) {id:Nat} {o:Ob} {rg:Rg} (h1:s.h id=some o) (h2:γ id=some rg)
  (hne:∀ cid p,qcH pl cid=some p→p.id≠id) {q:Addr} (hq:rg.has q):¬ qjt (gmC γ (qcH pl)) (qaQ L) q:=fun hF=>by
 obtain⟨_,p1,cid,oo,O1,r1,rc1,hm,l1,hh⟩:=hin.foot_id hs hF;exact Rg.apart_has (hs.hp.dis _ _ _ _ _ _ (hne cid p1 l1.plc) l1.h h1 l1.g h2) (l1.sub q hh) hq
theorem qpn {F:Fence} (hd:F.depth=none) {n m:Nat} {cd:Code} {Q:Exit→Act→World→Prop} (h:cd.wpIn F n P Q a w):cd.wpIn F m P Q a w:=fun b k cs hro hb _=>h b k cs hro hb fun d hd'=>by rw[hd]at hd';cases hd'
def qEP (P:Program) (n:Nat) (cd:Code) (live:List Nat) (args:List AV) (L:List (Nat×Ob)) (R:Exit→List (Nat×Ob)→Prop):Prop :=
 ∀ (w:World) (Z:Addr→Prop) (γ:Gm) (a:Act) (l m:Nat),a.defers=[]→a.tmps.size=n→CRel w Z γ args (live.map (a.tmps.getD · undef)).toArray→HRel w Z γ (qaQ L)→(∀ id r,γ id=some r→(qaQ L id).isSome=true) →
  cd.wpIn (fen (some l)) m P (fun e _ w'=>∃ L' Z' γ',R e L'∧HRel w' Z' γ' (qaQ L')∧Fr (qjt γ (qaQ L)) w w' ∧
   (∀ p,Z p→Z' p)∧(∀ p,Z' p→Z p∨w.heap.size≤p.block) ∧
   (∀ id o rg,qaQ L' id=some o→γ' id=some rg→∀ p,rg.has p→w.heap.size≤p.block∨qjt γ (qaQ L) p) ∧
   (∀ id o,qaQ L id=some o→γ' id=γ id)) a w
theorem qrN {w:World} {Z:Addr→Prop} {γ:Gm}:∀ (live:List Nat) (args:List AV) (f:Nat→Value),live.length=args.length→(∀ j,j<args.length→AVRel w Z γ (args.getD j .top) (f (live.getD j 0)))→∀ i,AVRel w Z γ (mkT (live.zip args) i) (f i)
 | [],_,f,_,_,i=>by simpa [mkT]using AVRel.top γ (f i)
 | k::live,[],f,hl,_,i=>by simp at hl
 | k::live,x::args,f,hl,h,i=>by
  simp only[List.zip_cons_cons,mkT];by_cases hi:i=k
  ·subst hi;rw[if_pos rfl];have:=h 0 (by simp);simpa using this
  ·rw[if_neg hi];exact qrN live args f (by simpa using hl) (fun j hj=>by
    have:=h (j+1) (by simp;omega);simpa using this) i
theorem quM {n:Nat} {pl:List (Nat×List Itm)} {cd:Code} {ac:ACode} {live:List Nat} {args:List AV} {L:List (Nat×Ob)} {R:Exit→List (Nat×Ob)→Prop} (hc:comp n pl cd=some ac) (hno:qiO cd=true) (hll:live.length=args.length) (hL:(L.map (·.1)).Nodup)
  (h:VA P ⟨n,L.map (·.1)⟩ ac ⟨mkT (live.zip args),qaQ L,Us.of (L.map (·.1))⟩ (fun e s'=>∃ L',qvv s'.h L'∧R e L')):qEP P n cd live args L R:=by
 intro w Z γ a l m hd hsz hargs hh hsc;have hkey:∀ id o,qaQ L id=some o→id∈L.map (·.1):=fun id o ho=>qGt.2 ⟨_,qbx ho,rfl⟩;refine wpIn_mono (h pl cd hc (some l) m ⟨w,Z,γ,qaQ L,n⟩ Z γ a w (.inr hno) rfl hkey ?_) ?_
 ·refine⟨fun i=>?_,hsz,by rw[hd];exact Mk.nil _ _,hh,.refl _ _,fun id o r ho hr p hp=>.inr ⟨id,o,r,ho,hr,hp⟩,fun _ h=>h,fun _ h=>.inl h,fun id r hr=>?_,fun id o ho=>?_,fun _ _ _=>rfl⟩
  ·refine qrN live args (fun i=>a.tmps.getD i undef) hll (fun j hj=>?_) i;have:=hargs.2 j hj;have e1:(live.map (a.tmps.getD · undef)).toArray.getD j undef=a.tmps.getD (live.getD j 0) undef:=by
    have:j<live.length:=by omega
    simp[qF1,List.getD,this]
   rw[e1]at this;exact this
  ·have:=hsc id r hr;cases hx:qaQ L id with
   | none=>simp[hx]at this
   | some o=>exact hkey id o hx
  ·obtain⟨r,hr,_⟩:=hh.obj id o ho;exact⟨r,hr⟩
 ·rintro e a' w' ⟨s',Z',γ',hs,L',hle,hR⟩;have hsub:∀ id o,qaQ L' id=some o→s'.h id=some o:=fun id o ho=>qiZ hle ho;exact⟨L',Z',γ',hR,⟨fun id o ho=>hs.hp.obj id o (hsub id o ho),fun i j o1 o2 r1 r2 hne h1 h2=>hs.hp.dis i j o1 o2 r1 r2 hne (hsub _ _ h1) (hsub _ _ h2),fun id o r ho=>hs.hp.zon id o r (hsub _ _ ho),hs.hp.zlt,hs.hp.gl⟩,hs.fr,hs.z0,hs.z1,fun id o rg ho hg=>hs.own id o rg (hsub _ _ ho) hg,fun id o ho=>hs.inp id o ho⟩
end
end Go.Av
end
section
namespace Go.Av
open Go.RowKit
def qbC (A:Addr) (size m len x:Nat):Value:=.slice (some (A.at (m * x * size))) (min m (len-m * x)) (min m (len-m * x))
def qaK (m len:Nat):Nat:=(len+(m-1)) / m
def qsW (P:Program) (gf size m:Nat):Prop :=
 ∀ (n:Nat) (A1 A2:Addr) (sv:Value) (A:Addr) (len cap:Nat) (w:World),1≤n→len≤1000000→A1.block<w.heap.size→A2.block<w.heap.size→w.cell? A1=some sv→w.cell? A2=some (.int .i64 m) →
  (A.spot=none∧sv=.slice (some A) len cap∧len≤cap)∨(len=0∧∃ a c,sv=.slice a 0 c) →
  SeqStopsK Fence.wide n P gf #[.pointer (some A1),.pointer (some A2)] (fun x:Fin (qaK m len)=>#[qbC A size m len x]) (fun W W'=>W'.cell? A1=W.cell? A1∧W'.cell? A2=W.cell? A2) (fun xs=>xs=List.finRange (qaK m len)) (fun xs=>∃ k,xs=(List.finRange (qaK m len)).take k) (qaK m len) w
theorem qp6 {ps:Array Tmp} {asg:Code} {p q:Nat} (h:qyK ps asg=some (p,q)):ps=#[p]∧∃ id ops o,asg=.region id ops false∧ops.toList=[o]∧o.op=.assign (.tmp p)∧o.dst=some q∧o.guard=none:=by
 unfold qyK at h;split at h
 ·rename_i p0 id ops hps;split at h
  ·rename_i o hops;split at h
   ·rename_i p' q' h1 h2 h3;split at h
    ·rename_i hpp;simp only[qFQ,qFR]at h;obtain⟨rfl,rfl⟩:=h;subst hpp;exact⟨by apply qGE.1;simpa using hps,id,ops,o,rfl,hops,h1,h2,h3⟩
    ·cases h
   ·cases h
  ·cases h
 ·cases h
section
variable {P:Program} {E:Env} {s:S} {Q:Exit→S→Prop}
def qcc (L:List (Nat×Ob)):List (Nat×Plc):=L.map fun x=>(x.1,.whole x.1)
theorem qjO:∀ {L:List (Nat×Ob)} {id:Nat},id∈L.map (·.1)→qcH (qcc L) id=some (.whole id)
 | [],id,h=>by simp at h
 | (j,o)::r,id,h=>by
  simp only[qcc,qGs,qcH];by_cases e:id=j
  ·rw[if_pos e,e]
  ·rw[if_neg e];simp only[qGs,qHq]at h;exact qjO (L:=r) (h.resolve_left e)
def qod (E:Env) (Q:Exit→S→Prop) (ok:Prop) (next:S) (s':S):Exit→Prop
 | .normal=>SW E s' next
 | .ret=>ok→Q .ret s'
 | .exit id=>ok→Q (.exit id) s'
 | _=>False
theorem SRel.mark {c:Cx} {Z:Addr→Prop} {γ:Gm} {a:Act} {W:World} (h:SRel c s Z γ a W) {D:Nat} (hK:W.heap[D]?=some (Obj.deferred (some []))) (hD:c.w0.heap.size≤D) (hn:mkD D ∉ a.defers):SRel c s Z γ { a with defers:={ target:=.collected D,args:=#[] }::a.defers } W:=by
 obtain⟨Ds,e1,e2,e3⟩:=h.dfr;refine⟨h.tmp,h.siz,⟨D::Ds,by rw[e1];rfl,qHp.2 ⟨fun hm=>hn (by rw[e1];exact qGt.2 ⟨D,hm,rfl⟩),e2⟩,fun D' hD'=>?_⟩,h.hp,h.fr,h.own,h.z0,h.z1,h.scp,h.in0,h.inp⟩;rcases qHq.1 hD' with rfl | hm
 ·exact⟨hD,hK⟩
 ·exact e3 D' hm
theorem qs7 {g:Operand} {p q:Nat} {x:ACode} {gf k1 k2 b size m len:Nat} (st:List (Fin (qaK m len))→S) (hit:qsW P gf size m) (hbd:hasBody P gf=true) (hm:0<m) (hl:len≤1000000) (hs0:SW E s (st []))
  (hgs:∀ pre,opd (st pre).t g=.fn gf [.ptr k1 0 0,.ptr k2 0 0]) (hk1:∀ pre,(st pre).h k1=some ⟨1,[[.sl b 0 len]]⟩) (hk2:∀ pre,(st pre).h k2=some ⟨1,[[.int .i64 m]]⟩) (hbo:∀ pre,∃ o,(st pre).h b=some o∧o.sz=size)
  (body:∀ pre (i:Fin (qaK m len)),pre.length<qaK m len→∃ (live:List Nat) (L:List (Nat×Ob)) (R:Exit→List (Nat×Ob)→Prop),(∀ k∈live,k≠p)∧(L.map (·.1)).Nodup∧k1 ∉ L.map (·.1)∧k2 ∉ L.map (·.1) ∧
   mtL (fun _=>none) ((qcc L).map (·.2.id)) (qcH (qcc L)) (live.map fun k=>if k=q then .sl b (m * i) (min m (len-m * i)) else (st pre).t k) (live.map fun k=>if k=q then .sl b (m * i) (min m (len-m * i)) else (st pre).t k) ∧
   qpL (fun _=>none) (st pre).h (qcc L) L ∧
   VA P ⟨E.n,L.map (·.1)⟩ x ⟨mkT (live.zip (live.map fun k=>if k=q then .sl b (m * i) (min m (len-m * i)) else (st pre).t k)),qaQ L,Us.of (L.map (·.1))⟩ (fun e s'=>∃ L',qvv s'.h L'∧R e L') ∧
   ∀ e L',R e L'→∃ φ,OutOk (st pre) (qcc L) φ L'∧qod E Q (∃ k,pre++[i]=(List.finRange (qaK m len)).take k) (st (pre++[i])) (qaf (st pre) (qcc L) φ none (.tup []) L') e)
  (done:Q .normal (st (List.finRange (qaK m len)))):VA P E (.rng g p q x) s Q:=fun plc cd hc=>by
 cases cd with
 | rangeFunc g' ps asg bd =>
  simp only[comp,qHE]at hc;obtain⟨⟨g1,p1,q1,x1⟩,hrp,hrx⟩:=hc;simp only[ACode.rng.injEq]at hrx;obtain⟨rfl,rfl,rfl,rfl⟩:=hrx;unfold qCi at hrp;split at hrp
  ·rename_i p2 q2 x2 hasg hcb;split at hrp
   ·rename_i hcond;simp only[qFQ,qFR]at hrp;obtain⟨rfl,rfl,rfl,rfl⟩:=hrp;obtain⟨hpn,hqn,hpq,hnob⟩:=hcond;obtain⟨rfl,rid,ops,o,rfl,hops,hop,hdst,hgd⟩:=qp6 hasg;intro ρ dm cx Z γ a w hr hn hi hs;rcases hr with rfl | hr;rotate_left
    ·simp[qiO]at hr
    obtain⟨Z0,γ0,hs⟩:=hs0 cx Z γ a w hn hi hs;have hfn:=hs.tmp.opd hs.hp.gl g';rw[hgs []]at hfn;generalize hfv:a.eval g'=fv at hfn;cases hfn with
    | fn _ _ _ lb hsz hrl =>
     have hl0:=hrl 0 (by simp);have hl1:=hrl 1 (by simp);simp only[qGB,qHn]at hl0 hl1;generalize hv0:lb.getD 0 undef=v0 at hl0;generalize hv1:lb.getD 1 undef=v1 at hl1;cases hl0 with
     | ptr _ _ _ _ r1 hr1 =>
      cases hl1 with
      | ptr _ _ _ _ r2 hr2 =>
       have hlb:lb=#[.pointer (some (r1.A.at (0 * r1.sz+0))),.pointer (some (r2.A.at (0 * r2.sz+0)))]:=by
        apply qHH
        ·simpa using hsz
        ·intro i h1 h2;have:i=0∨i=1:=by simp at h2;omega
         rcases this with rfl | rfl
         ·simpa [Array.getD,h1]using hv0
         ·simpa [Array.getD,h1]using hv1
       simp only[qHr,qHc]at hlb;obtain⟨A1,hA1⟩:∃ A1,r1.A.at 0=A1:=⟨_,rfl⟩;obtain⟨A2,hA2⟩:∃ A2,r2.A.at 0=A2:=⟨_,rfl⟩;rw[hA1,hA2]at hlb;have places:∀ pre Z' γ' W,SRel cx (st pre) Z' γ' a W→(∃ ra,γ' k1=some ra∧ra.A.at 0=A1∧ra.has A1)∧(∃ rb,γ' k2=some rb∧rb.A.at 0=A2∧rb.has A2) ∧
         (∃ v,W.cell? A1=some v∧AVRel W Z' γ' (.sl b 0 len) v)∧W.cell? A2=some (.int .i64 m)∧∃ rg,γ' b=some rg∧rg.sz=size∧rg.A.spot=none:=fun pre Z' γ' W h=>by
        have hf:=h.tmp.opd h.hp.gl g';rw[hgs pre,hfv]at hf;generalize hfe:(Value.func (.func gf) #[] lb)=fe at hf;cases hf with
        | fn _ _ _ lb' hsz' hrl' =>
         injection hfe with _ _ hfe;subst hfe;have t0:=hrl' 0 (by simp);have t1:=hrl' 1 (by simp);simp only[qGB,qHn]at t0 t1;rw[hlb]at t0 t1;simp only[qF1,qF4,qF5,qGl,qGU]at t0 t1;obtain⟨ra,hra,hora⟩:=h.hp.obj k1 _ (hk1 pre);obtain⟨rb,hrb,horb⟩:=h.hp.obj k2 _ (hk2 pre);generalize hx0:(Value.pointer (some A1))=x0 at t0;generalize hx1:(Value.pointer (some A2))=x1 at t1;cases t0 with
         | ptr _ _ _ _ ra' hra' =>
          rw[hra]at hra';injection hra' with hra';subst hra';cases t1 with
          | ptr _ _ _ _ rb' hrb' =>
           rw[hrb]at hrb';injection hrb' with hrb';subst hrb';simp only[qHr,qHc]at hx0 hx1;injection hx0 with hx0;injection hx0 with hx0;injection hx1 with hx1;injection hx1 with hx1;have fa:=hora.fit;have fb:=horb.fit;simp only[qGk,qHf]at fa fb;obtain⟨u,hu,hur⟩:=hora.cell 0 0 (by simp) (by simp);obtain⟨z,hz,hzr⟩:=horb.cell 0 0 (by simp) (by simp);simp only[qHr,qHc,qGB]at hu hur hz hzr;cases hzr;obtain⟨ob,hob,hosz⟩:=hbo pre;obtain⟨rg,hrg,horg⟩:=h.hp.obj b _ hob;refine⟨⟨ra,hra,hx0.symm,by rw[hx0];exact Rg.has_at (by omega)⟩,⟨rb,hrb,hx1.symm,by rw[hx1];exact Rg.has_at (by omega)⟩,⟨u,by rw[hx0];exact hu,hur⟩,by rw[hx1];exact hz,rg,hrg,by rw[horg.sz,hosz],horg.spot⟩
       obtain⟨_,_,⟨sv,hsv,hsvr⟩,hmv,rg0,hrg0,hrgsz0,hrgs0⟩:=places [] Z0 γ0 w hs;have hb1:=World.block_lt_of_cell? w _ hsv;have hb2:=World.block_lt_of_cell? w _ hmv;obtain⟨A,cap,hA⟩:∃ (A:Addr) (cap:Nat),(A.spot=none∧sv=.slice (some A) len cap∧len≤cap)∨(len=0∧∃ a c,sv=.slice a 0 c):=by
        cases hsvr with
        | sl _ _ _ _ cap r hg hlc hc=>exact⟨r.A.at (0 * r.sz),cap,.inl ⟨rfl,rfl,hlc⟩⟩
        | sl0 _ _ _ a=>exact⟨⟨0,0,none⟩,0,.inr ⟨rfl,a,0,rfl⟩⟩
       have hseq:=hit 2 A1 A2 sv A len cap w (by omega) hl hb1 hb2 hsv hmv hA;have hchunk:∀ pre Z' γ' W (i:Fin (qaK m len)),SRel cx (st pre) Z' γ' a W→W.cell? A1=some sv→AVRel W Z' γ' (.sl b (m * i) (min m (len-m * i))) (qbC A size m len i):=fun pre Z' γ' W i h hW=>by
        obtain⟨_,_,⟨v,hv,hvr⟩,_,rg,hrg,hrgsz,hrgsp⟩:=places pre Z' γ' W h;rw[hW]at hv;injection hv with hv;subst hv;have hlt:m * i.1<len:=by
         have:=i.2;unfold qaK at this;have h2:=Nat.div_mul_le_self (len+(m-1)) m;have h3:(i.1+1) * m≤(len+(m-1)) / m * m:=qF0 _ (by omega);rw[qGS m i.1];rw[qFW]at h3;omega
        generalize hsl:sv=sv' at hvr;cases hvr with
        | sl _ _ _ _ cap' r hg hlc hc =>
         rw[hrg]at hg;injection hg with hg;subst hg;rcases hA with⟨hAs,e,hlc2⟩ | ⟨e,_⟩
         ·rw[e]at hsl;simp only[Value.slice.injEq,qFQ]at hsl;obtain⟨e1,_,e2⟩:=hsl;have e3:A=rg.A:=by
           rw[e1];have hsp:rg.A.spot=none:=hrgsp;generalize rg.A=B at hsp;obtain⟨b1,b2,b3⟩:=B;simp only at hsp;subst hsp;simp[Addr.at]
          have:=AVRel.sl (w:=W) (Z:=Z') γ' b (m * i) (min m (len-m * i)) (min m (len-m * i)) rg hrg (qFM _) (by
           refine qFN (qF0 _ ?_) hc;omega)
          rw[hrgsz]at this;unfold qbC;rw[e3];exact this
         ·omega
        | sl0=>omega
       obtain⟨Ds,hDs,hDn,hDm⟩:=hs.dfr;have hDlt:∀ D,mkD D∈a.defers→D<w.heap.size:=fun D hD=>by
        rw[hDs]at hD;obtain⟨D',hD',e⟩:=qGt.1 hD;have e2:D'=D:=by
         simp only[mkD,Deferred.mk.injEq,and_true]at e;injection e
        subst e2;exact(qGJ.1 (hDm _ hD').2).1
       have hGlt:∀ gg cs,gtab gg=some cs→gg<w.heap.size:=fun gg cs hgt=>hs.hp.zlt _ (hs.hp.gl gg cs hgt).2.1;have hgrow:∀ (s':S) (Z':Addr→Prop) (γ':Gm) (W W':World) (row:Option Nat),SRel cx s' Z' γ' a W→W.grownBy W' row→(∀ r,row=some r→w.heap.size≤r∧∃ o:Obj,W.heap[r]?=some o∧o.isCells=false)→SRel cx s' Z' γ' a W':=fun s' Z' γ' W W' row h hg hr=>h.grown hg hr hs.fr.size hDlt hGlt;have hcellG:∀ (p:Addr) (W W':World) (row:Option Nat),p.block<w.heap.size→W.cell? p=w.cell? p→(∃ v,w.cell? p=some v)→W.grownBy W' row→(∀ r,row=some r→w.heap.size≤r∧∃ o:Obj,W.heap[r]?=some o∧o.isCells=false)→W'.cell? p=w.cell? p:=fun p W W' row hp hc ⟨v,hv⟩ hg hr=>by
        refine(World.cell?_of_block ?_).trans hc;refine(hg.block _ (World.block_lt_of_cell? W _ (hc.trans hv)) fun e=>?_);have:=(hr _ e.symm).1;omega
       show(Code.rangeFunc _ _ _ _).wpIn Fence.wide dm P _ a w;refine qpn (n:=3) rfl ?_;clear hv0 hv1 hrl hsz;subst hlb;refine wpIn_rangeFunc_ownG rfl (by omega) (gf:=gf) hfv trivial (fun args w=>qi9 hbd args w) hseq (fun h k=>⟨k.1.trans h.1,k.2.trans h.2⟩) (fun W l o o' hlw hl hc _=>?_) (Below.refl _ _) (fun _=>rfl)
        (fun pre W=>(∃ Z' γ',SRel cx (st pre) Z' γ' a W)∧W.cell? A1=w.cell? A1∧W.cell? A2=w.cell? A2)
        (fun cd xs W=>match cd with
         | .ret=>∃ s' Z' γ',SRel cx s' Z' γ' a W∧((∃ k,xs=(List.finRange (qaK m len)).take k)→Q .ret s')
         | .exit id=>∃ s' Z' γ',SRel cx s' Z' γ' a W∧((∃ k,xs=(List.finRange (qaK m len)).take k)→Q (.exit id) s')
         | _=>False)
        (fun pre W W' row ⟨⟨Z',γ',h⟩,c1,c2⟩ hg hr=>⟨⟨Z',γ',hgrow _ _ _ _ _ _ h hg hr⟩,hcellG _ _ _ _ hb1 c1 ⟨_,hsv⟩ hg hr,hcellG _ _ _ _ hb2 c2 ⟨_,hmv⟩ hg hr⟩)
        (fun cd pre W W' row h hg hr=>?_) ⟨⟨Z0,γ0,hs⟩,rfl,rfl⟩
        (fun i=>{ tmps:=(a.tmps.setIfInBounds p2 (qbC A size m len i)).setIfInBounds q2 (qbC A size m len i),defers:=[] }) ?assign ?body ?done ?stop
       ·have hk:∀ p:Addr,p.block<w.heap.size→(W.putObj l o').cell? p=W.cell? p:=fun p hp=>World.cell?_of_block (World.putObj_heap_other (by omega));exact⟨hk _ hb1,hk _ hb2⟩
       ·cases cd <;> simp only at h ⊢
        ·obtain⟨s',Z',γ',h1,h2⟩:=h;exact⟨s',Z',γ',hgrow _ _ _ _ _ _ h1 hg hr,h2⟩
        ·obtain⟨s',Z',γ',h1,h2⟩:=h;exact⟨s',Z',γ',hgrow _ _ _ _ _ _ h1 hg hr,h2⟩
       case assign =>
        intro l i W K hK;have hfo:(#[p2].zip #[qbC A size m len i]).foldl (fun t (x:Nat×Value)=>t.setIfInBounds x.1 x.2) a.tmps=a.tmps.setIfInBounds p2 (qbC A size m len i):=by simp
        have hps:(a.tmps.setIfInBounds p2 (qbC A size m len i)).getD p2 undef=qbC A size m len i:=by
         have:p2<a.tmps.size:=by rw[hs.siz,hn];exact hpn
         simp[qF1,this]
        have hev:Act.eval { tmps:=a.tmps.setIfInBounds p2 (qbC A size m len i),defers:=[] } (.tmp p2)=qbC A size m len i:=hps;have hrun:(execOp (Act.eval { tmps:=a.tmps.setIfInBounds p2 (qbC A size m len i),defers:=[] }) o).run P W=.ok (.value (qbC A size m len i)) W:=by
         have e:(execOp (Act.eval { tmps:=a.tmps.setIfInBounds p2 (qbC A size m len i),defers:=[] }) o).run P W=.ok (.value (Act.eval { tmps:=a.tmps.setIfInBounds p2 (qbC A size m len i),defers:=[] } (.tmp p2))) W:=by
          simp only[execOp,hop];rfl
         rw[e,hev]
        refine wpIn_region_list ?_;rw[hfo,hops];simp only[wpListIn,Region.wanted,hgd,if_true];refine⟨fun _ _=>trivial,?_⟩;rw[qn8 (ρ:=(Fence.wide.inRound l).round) (P:=P) (w:=W) hrun (by simp),hrun];show K (Act.put { tmps:=a.tmps.setIfInBounds p2 (qbC A size m len i),defers:=[] } o.dst (qbC A size m len i)) W;rw[hdst];exact hK
       case body =>
        rintro l pre i W ⟨⟨Z',γ',h⟩,hc1,hc2⟩ hlen;obtain⟨live,L,R,hlp,hnd,hn1,hn2,hmt,hin,hva,hend⟩:=body pre i hlen;have hids:(qcc L).map (·.2.id)=L.map (·.1):=by simp[qcc,Plc.id,qHQ]
        have hcall:CallIn (st pre) (fun _=>none) (qcc L) _ _ L:=⟨.inr rfl,hmt,by rw[hids];exact hnd,qee hin,fun y hy=>?_,fun y hy=>?_⟩;rotate_left
        ·obtain⟨z,hz,rfl⟩:=qGt.1 hy;rw[qbT hnd (i:=z.1) (o:=z.2) hz];rfl
        ·obtain⟨z,hz,rfl⟩:=qGt.1 hy;obtain⟨pp,hpp,hmm⟩:=qee hin z hz;have hpp2:=qjO (L:=L) (qGt.2 ⟨z,hz,rfl⟩);rw[hpp2]at hpp;injection hpp with hpp;subst hpp;obtain⟨O,hO,_⟩:=hmm;simp only[Plc.id,hO];rfl
        have hbc:=quM hcb hnob (by simp) hnd hva;have hargs:CRel W Z' γ' (live.map fun k=>if k=q2 then .sl b (m * i) (min m (len-m * i)) else (st pre).t k) (live.map (((a.tmps.setIfInBounds p2 (qbC A size m len i)).setIfInBounds q2 (qbC A size m len i)).getD · undef)).toArray:=by
         refine⟨by simp,fun j hj=>?_⟩;simp only[qG4]at hj;have e1:(live.map (((a.tmps.setIfInBounds p2 (qbC A size m len i)).setIfInBounds q2 (qbC A size m len i)).getD · undef)).toArray.getD j undef=((a.tmps.setIfInBounds p2 (qbC A size m len i)).setIfInBounds q2 (qbC A size m len i)).getD live[j] undef:=by
          simp[qF1,hj]
         have e2:(live.map fun k=>if k=q2 then AV.sl b (m * i) (min m (len-m * i)) else (st pre).t k).getD j .top=if live[j]=q2 then AV.sl b (m * i) (min m (len-m * i)) else (st pre).t live[j]:=by
          simp[List.getD,hj]
         rw[e1,e2];by_cases hq:live[j]=q2
         ·rw[if_pos hq,hq];have hsz:q2<a.tmps.size:=by rw[h.siz,hn];exact hqn
          have:((a.tmps.setIfInBounds p2 (qbC A size m len i)).setIfInBounds q2 (qbC A size m len i)).getD q2 undef=qbC A size m len i:=by simp[qF1,hsz]
          rw[this];exact hchunk pre Z' γ' W i h (hc1.trans hsv)
         ·rw[if_neg hq];have hp:=hlp live[j] (qGz hj);have:((a.tmps.setIfInBounds p2 (qbC A size m len i)).setIfInBounds q2 (qbC A size m len i)).getD live[j] undef=a.tmps.getD live[j] undef:=by
           simp only[qF1,qGK (qFL hq),qGK (qFL hp)]
          rw[this];exact h.tmp _
        refine wpIn_mono (hbc W (zC Z' γ' (fun _=>none) ((qcc L).map (·.2.id))) (gmC γ' (qcH (qcc L))) _ l _ rfl (by simp[h.siz,hn]) (hcall.argsRel h hargs) (hcall.heap h) (fun id r hg=>?_)) ?_
        ·simp only[gmC]at hg;cases hp:qcH (qcc L) id with
         | none=>simp[hp]at hg
         | some pp=>exact hcall.keys _ (qbG hp)
        rintro e a' W' ⟨L',Zr,γr,hR,hhr,hfr,hz1,hz2,hreg,hret⟩;obtain⟨φ,ho,hre⟩:=hend e L' hR;obtain⟨Z3,γ3,h3⟩:=h.after hcall (v:=.tuple #[]) (r:=.tup []) (.tup _ _ _ rfl fun j hj=>by simp at hj) hhr hfr hz1 hz2 hreg hret φ none ⟨.inl rfl,ho.nod,ho.new,ho.unu,ho.kin,ho.sub⟩ (by simp);have hkf:KeepsFrom w.heap.size W W':=⟨hfr.size,fun k ob _ hk hob=>by
         rcases hfr.blk k (qGJ.1 hk).1 with e | ⟨cc,_,_,_,h1,_⟩
         ·rw[e];exact hk
         ·rw[hk]at h1;injection h1 with h1;subst h1;simp[Obj.isCells]at hob⟩
        have hnotk:∀ kk,kk ∉ L.map (·.1)→∀ cid pp,qcH (qcc L) cid=some pp→pp.id≠kk:=fun kk hkk cid pp hpp e=>by
         obtain⟨z,hz,e2⟩:=qGt.1 (qbG hpp);injection e2 with e3 e4;subst e4;exact hkk (qGt.2 ⟨z,hz,e⟩)
        obtain⟨⟨ra,hra,hra1,hra2⟩,⟨rb,hrb,hrb1,hrb2⟩,_⟩:=places pre Z' γ' W h;have hkp:W'.cell? A1=W.cell? A1∧W'.cell? A2=W.cell? A2:=by
         refine⟨hfr.cell (World.block_lt_of_cell? W _ (hc1.trans hsv)) ?_,hfr.cell (World.block_lt_of_cell? W _ (hc2.trans hmv)) ?_⟩
         ·have e:(⟨A1.block,A1.off,none⟩:Addr)=A1:=by rw[← hra1];rfl
          rw[e];exact hcall.far h (hk1 pre) hra (hnotk k1 hn1) hra2
         ·have e:(⟨A2.block,A2.off,none⟩:Addr)=A2:=by rw[← hrb1];rfl
          rw[e];exact hcall.far h (hk2 pre) hrb (hnotk k2 hn2) hrb2
        cases e with
        | normal =>
         obtain⟨Z4,γ4,h4⟩:=hre cx Z3 γ3 a W' hn hi h3;exact⟨hkf,hkp,⟨Z4,γ4,h4⟩,hkp.1.trans hc1,hkp.2.trans hc2⟩
        | ret=>exact⟨hkf,_,Z3,γ3,h3,hre⟩
        | exit id=>exact⟨hkf,_,Z3,γ3,h3,hre⟩
        | goto t=>exact hre.elim
        | panic ch=>exact hre.elim
        | outgrown=>exact hre.elim
       case done =>
        rintro D xs W hD rfl ⟨⟨Z',γ',h⟩,_,_⟩ hK;exact⟨_,Z',γ',h.mark hK (qFN hs.fr.size hD) (fun hm=>by have:=hDlt D hm;omega),done⟩
       case stop =>
        rintro D cd pre W hD hpre h hK;cases cd <;> simp only at h
        ·obtain⟨s',Z',γ',h1,h2⟩:=h;have h2:=h2 hpre;exact wpIn_exit ⟨s',Z',γ',h1.mark hK (qFN hs.fr.size hD) (fun hm=>by have:=hDlt D hm;omega),h2⟩
        ·obtain⟨s',Z',γ',h1,h2⟩:=h;have h2:=h2 hpre;exact wpIn_ret ⟨s',Z',γ',h1.mark hK (qFN hs.fr.size hD) (fun hm=>by have:=hDlt D hm;omega),h2⟩
   ·cases hrp
  ·cases hrp
 | region id ops b=>cases b <;> simp[comp,Option.map]at hc <;> (try split at hc) <;> (try simp at hc) <;> (try split at hc) <;> (try simp at hc)
 | seq a b=>simp only[comp]at hc;split at hc <;> simp at hc
 | cond c a b=>simp only[comp]at hc;split at hc <;> simp at hc
 | block id a=>simp[comp]at hc
 | loop a=>simp[comp]at hc
 | _=>simp[comp]at hc
end
end Go.Av
end
section
namespace Go.Av
open Go.RowKit
section
variable {P:Program}
def N0 (N:List (Nat×Nat)):List (Nat×Ob):=N.map fun p=>(p.1,⟨p.2,[]⟩)
def qDN (N:List (Nat×Nat)) (r r2:AV):Prop:=∀ (w:World) (Z:Addr→Prop) (γ:Gm) (v:Value),(∀ i o,qaQ (N0 N) i=some o→γ i=some ⟨⟨0,0,none⟩,0,o.sz⟩)→AVRel w Z γ r v→AVRel w Z γ r2 v
theorem qrB (N:List (Nat×Nat)) (r:AV):qDN N r r:=fun _ _ _ _ _ h=>h
inductive phL (N:List (Nat×Nat)):List AV→List AV→Prop
 | nil:phL N [] []
 | cons {a b:AV} {as bs:List AV} (h:qDN N a b) (t:phL N as bs):phL N (a::as) (b::bs)
theorem phL.len {N:List (Nat×Nat)} {as bs:List AV} (h:phL N as bs):as.length=bs.length:=by
 induction h with
 | nil=>rfl
 | cons _ _ ih=>simp[ih]
theorem phL.at {N:List (Nat×Nat)} {as bs:List AV} (h:phL N as bs):∀ j,qDN N (as.getD j .top) (bs.getD j .top):=by
 induction h with
 | nil=>intro j;exact qrB N _
 | cons h _ ih =>
  intro j
  match j with
  | 0=>exact h
  | j+1=>exact ih j
end
end Go.Av
end
