/- Lemmas for the proof, no statement of the seat; no conditions. -/
import Derived.Test.YtcbjbdnmhlhijaaGreatDoorLayAH
import Derived.RangeFuncNested
set_option linter.unusedSimpArgs false
set_option linter.unusedVariables false
set_option linter.unnecessarySimpa false
set_option maxRecDepth 100000
section
namespace Go.Av
open Go.RowKit
section
variable {P:Program} {E:Env} {s:S} {Q:Exit→S→Prop} {K:S→Prop} {d:Option Nat}
theorem impA_sl0 (id e:Nat):impA .nils (.sl id e 0):=fun w Z γ v h=>by
 cases h
 exact .sl0 _ _ _ _
theorem impA_agg {cs ds:List AV} (hl:cs.length=ds.length) (h:∀ j,j<cs.length→impA (cs.getD j .top) (ds.getD j .top)):impA (.agg cs) (.agg ds):=fun w Z γ v hr=>by
 cases hr with
 | agg _ _ vs hs hr=>exact .agg _ _ _ (by rw[hs,hl]) fun j hj=>h j (by omega) w Z γ _ (hr j (by omega))
theorem impA_tup {cs ds:List AV} (hl:cs.length=ds.length) (h:∀ j,j<cs.length→impA (cs.getD j .top) (ds.getD j .top)):impA (.tup cs) (.tup ds):=fun w Z γ v hr=>by
 cases hr with
 | tup _ _ vs hs hr=>exact .tup _ _ _ (by rw[hs,hl]) fun j hj=>h j (by omega) w Z γ _ (hr j (by omega))
inductive impL:List AV→List AV→Prop
 | nil:impL [] []
 | cons {a b:AV} {r q:List AV} (h:impA a b) (t:impL r q):impL (a::r) (b::q)
theorem impL_get {cs ds:List AV} (h:impL cs ds):cs.length=ds.length∧∀ j,impA (cs.getD j .top) (ds.getD j .top):=by
 induction h with
 | nil=>exact⟨rfl,fun j=>by simpa using qbw _⟩
 | cons h t ih =>
  refine⟨by simp[ih.1],fun j=>?_⟩
  cases j with
  | zero=>simpa using h
  | succ j=>simpa using ih.2 j
theorem impA_ag {cs ds:List AV} (h:impL cs ds):impA (.agg cs) (.agg ds):=impA_agg (impL_get h).1 fun j _=>(impL_get h).2 j
theorem impA_tu {cs ds:List AV} (h:impL cs ds):impA (.tup cs) (.tup ds):=impA_tup (impL_get h).1 fun j _=>(impL_get h).2 j
theorem sw_pht (id sz:Nat) (hu:id ∉ s.u):SW E s ⟨s.t,upd s.h id (some ⟨sz,[]⟩),Us.cons id s.u⟩:=fun cx Z γ a w hn hin hs=>by
 have hg:γ id=none:=by
  cases hgd:γ id with
  | none=>rfl
  | some r=>exact absurd (hs.scp id r hgd) hu
 have hgm:∀ i s,γ i=some s→upd γ id (some ⟨⟨0,0,none⟩,0,sz⟩) i=some s:=by
  intro i s hs
  by_cases hi:i=id
  ·subst hi;rw[hg]at hs;cases hs
  ·rw[qao _ _ hi];exact hs
 have key:∀ i o r,i≠id→upd s.h id (some ⟨sz,[]⟩) i=some o→upd γ id (some ⟨⟨0,0,none⟩,0,sz⟩) i=some r→s.h i=some o∧γ i=some r:=fun i o r hi ho hr=>by
  rw[qao _ _ hi]at ho hr;exact⟨ho,hr⟩
 refine⟨Z,upd γ id (some ⟨⟨0,0,none⟩,0,sz⟩),fun i=>(hs.tmp i).gmono hgm,hs.siz,hs.dfr,⟨fun i o ho=>?_,fun i j o1 o2 s1 s2 hne h1 h2 g1 g2=>?_,fun i o r ho hr p hp=>?_,hs.hp.zlt,hs.hp.gl⟩,hs.fr,fun i o r ho hr p hp=>?_,hs.z0,hs.z1,fun i r hr=>?_,hs.in0,hs.inp_u hu⟩
 ·by_cases hi:i=id
  ·subst hi
   simp only at ho
   rw[qaj]at ho ⊢
   injection ho with ho;subst ho
   exact⟨_,rfl,rfl,rfl,by simp,fun e he=>by simp at he,fun k hk=>by simp at hk,fun e j he=>by simp at he,fun _ h2=>by simp at h2⟩
  ·simp only at ho
   rw[qao _ _ hi]at ho
   obtain⟨r,hr,hor⟩:=hs.hp.obj i o ho
   exact⟨r,hgm _ _ hr,hor.spot,hor.sz,hor.fit,hor.len,hor.live,fun k j hk hj=>by
    obtain⟨v,hv,hrv⟩:=hor.cell k j hk hj
    exact⟨v,hv,hrv.gmono hgm⟩,hor.pln⟩
 ·by_cases hi:i=id
  ·subst hi
   rw[qaj]at g1
   injection g1 with g1;subst g1
   exact .inl rfl
  ·by_cases hj:j=id
   ·subst hj
    rw[qaj]at g2
    injection g2 with g2;subst g2
    exact .inr (.inl rfl)
   ·obtain⟨a1,a2⟩:=key i o1 s1 hi h1 g1
    obtain⟨b1,b2⟩:=key j o2 s2 hj h2 g2
    exact hs.hp.dis i j o1 o2 s1 s2 hne a1 b1 a2 b2
 ·by_cases hi:i=id
  ·subst hi
   rw[qaj]at hr
   injection hr with hr;subst hr
   have:=hp.2.2.1;have:=hp.2.1;simp only at *;omega
  ·obtain⟨a1,a2⟩:=key i o r hi ho hr
   exact hs.hp.zon i o r a1 a2 p hp
 ·by_cases hi:i=id
  ·subst hi
   rw[qaj]at hr
   injection hr with hr;subst hr
   have:=hp.2.2.1;have:=hp.2.1;simp only at *;omega
  ·obtain⟨a1,a2⟩:=key i o r hi ho hr
   exact hs.own i o r a1 a2 p hp
 ·by_cases hi:i=id
  ·subst hi;exact .inl rfl
  ·rw[qao _ _ hi]at hr;exact .inr (hs.scp i r hr)
theorem ACall.can {f:Nat} {args:List AV} {L:List (Nat×Ob)} {R R':AV→List (Nat×Ob)→Prop} (h:ACall P f args L R)
  (hr:∀ r L',R r L'→∃ φ:List (Nat×Nat),(∀ p∈φ,(hpOf L' p.1).isSome=true)∧(φ.map (·.2)).Nodup∧(∀ p∈φ,p.2∈L.map (·.1)→p.1=p.2)∧(φ.map (·.1)).Nodup∧R' (ren (rho φ) r) (φ.map fun p=>(p.2,obOf (rho φ) (hpOf L' p.1)))):ACall P f args L R':=by
 intro w Z γ vs hv hh hg
 refine(h w Z γ vs hv hh hg).mono ?_
 rintro e w' ⟨v,r,L',Z',g1,rfl,k2,k3,k4,k5,k6,k7,k8,k9⟩
 obtain⟨φ,h1,h2,h3,h4,hR⟩:=hr r L' k2
 let γ':Gm:=fun id=>if id∈L.map (·.1) then g1 id else match phInv φ id with
  | some old=>g1 old
  | none=>none
 have hmem:∀ {o n},(o,n)∈φ→γ' n=g1 o:=fun {o n} hm=>by
  show(if n∈L.map (·.1) then g1 n else match phInv φ n with | some old=>g1 old | none=>none)=g1 o
  split
  ·rename_i hin;have:=h3 _ hm hin;simp only at this;rw[this]
  ·rw[phInv_of h2 hm]
 have hok:PlcOk g1 γ' (rho φ):=fun c=>by
  unfold rho
  cases hc:phOf φ c with
  | none=>simp
  | some id =>
   simp only[Option.map_some]
   intro r hr
   rw[hmem (phOf_mem hc)];exact hr
 have hob:∀ id o,hpOf (φ.map fun p=>(p.2,obOf (rho φ) (hpOf L' p.1))) id=some o→∃ old oo,(old,id)∈φ∧hpOf L' old=some oo∧o=renOb (rho φ) oo:=fun id o ho=>by
  have:=qbn ho
  simp only[List.mem_map,Prod.mk.injEq]at this
  obtain⟨p,hp,e1,e2⟩:=this
  have h5:=h1 p hp
  cases hx:hpOf L' p.1 with
  | none=>simp[hx]at h5
  | some oo =>
   rw[hx]at e2
   obtain⟨p1,p2⟩:=p
   subst e1
   exact⟨p1,oo,hp,hx,e2.symm⟩
 refine⟨v,_,_,Z',γ',rfl,hR,k3.ren hok,⟨fun id o ho=>?_,fun i j o1 o2 r1 r2 hne g1 g2 e1 e2=>?_,fun id o r ho hr=>?_,k4.zlt,k4.gl⟩,k5,k6,k7,fun id o r ho hr=>?_,fun id o ho=>?_⟩
 ·obtain⟨old,oo,hm,hoo,rfl⟩:=hob id o ho
  obtain⟨r,hr,hor⟩:=k4.obj old oo hoo
  refine⟨r,(hmem hm).trans hr,hor.spot,hor.sz,by simpa [renOb]using hor.fit,fun e he=>?_,hor.live,fun e j he hj=>?_,hor.pln⟩
  ·simp only[renOb,List.length_map]at he
   have e1:(oo.els.map (renL (rho φ))).getD e []=renL (rho φ) (oo.els.getD e []):=by simp[List.getD,he]
   simp only[renOb,e1,qbe];exact hor.len e he
  ·simp only[renOb,List.length_map]at he hj
   obtain⟨v,hv,hr'⟩:=hor.cell e j he hj
   have e1:(oo.els.map (renL (rho φ))).getD e []=renL (rho φ) (oo.els.getD e []):=by simp[List.getD,he]
   refine⟨v,hv,?_⟩
   simp only[renOb,e1,renL_getD]
   exact hr'.ren hok
 ·obtain⟨old1,oo1,hm1,hoo1,rfl⟩:=hob i o1 g1
  obtain⟨old2,oo2,hm2,hoo2,rfl⟩:=hob j o2 g2
  rw[hmem hm1]at e1
  rw[hmem hm2]at e2
  refine k4.dis old1 old2 oo1 oo2 r1 r2 (fun e=>?_) hoo1 hoo2 e1 e2
  subst e
  apply hne
  exact nodup_fst h4 hm1 hm2
 ·obtain⟨old,oo,hm,hoo,rfl⟩:=hob id o ho
  rw[hmem hm]at hr
  exact k4.zon old oo r hoo hr
 ·obtain⟨old,oo,hm,hoo,rfl⟩:=hob id o ho
  rw[hmem hm]at hr
  exact k8 old oo r hoo hr
 ·show(if id∈L.map (·.1) then g1 id else match phInv φ id with | some old=>g1 old | none=>none)=_
  rw[if_pos (List.mem_map.2 ⟨_,qbn ho,rfl⟩)];exact k9 id o ho
theorem hpOf_cons_ne {id i:Nat} {o x:Ob} {L:List (Nat×Ob)} (hid:id ∉ L.map (·.1)) (h:hpOf L i=some x):i≠id∧hpOf ((id,o)::L) i=some x:=by
 have hm:=qbn h
 have:i≠id:=by rintro rfl;exact hid (List.mem_map.2 ⟨_,hm,rfl⟩)
 exact⟨this,by simp[this,h]⟩
theorem ACall.frz1 {f:Nat} {args:List AV} {R R':AV→List (Nat×Ob)→Prop} (h:ACall P f args [] R)
  (hr:∀ r L',R r L'→R' r L'∨∃ id o L2,L'=(id,o)::L2∧id ∉ L2.map (·.1)∧clR o.els=true∧(∀ x∈L2,clR x.2.els=true)∧R' (Av.frz id o r) L2):ACall P f args [] R':=by
 intro w Z γ vs hv hh hg
 refine(h w Z γ vs hv hh hg).mono ?_
 rintro e w' ⟨v,r,L',Z',γ',h1,h2,h3,h4,h5,h6,h7,h8,h9⟩
 rcases hr r L' h2 with hk | ⟨id,o,L2,rfl,hid,hcl,hcl2,hR⟩
 ·exact⟨v,r,L',Z',γ',h1,hk,h3,h4,h5,h6,h7,h8,h9⟩
 obtain⟨rg,hrg,hor⟩:=h4.obj id o (by simp)
 have hup:∀ {i x},hpOf L2 i=some x→i≠id∧hpOf ((id,o)::L2) i=some x:=fun h=>hpOf_cons_ne hid h
 refine⟨v,Av.frz id o r,L2,fun p=>Z' p∨rg.has p,γ',h1,hR,h3.frz hrg hor hcl,⟨fun i x hx=>?_,fun i j o1 o2 r1 r2 hne g1 g2=>?_,fun i x r' hx hr' p hp=>?_,fun p hp=>?_,h4.gl.world (fun _ h=>.inl h) (fun _ _=>rfl)⟩,h5,fun p hp=>.inl (h6 p hp),fun p hp=>?_,fun i x r' hx=>?_,h9⟩
 ·obtain⟨hi,hx'⟩:=hup hx
  obtain⟨r',hr',hor'⟩:=h4.obj i x hx'
  refine⟨r',hr',hor'.spot,hor'.sz,hor'.fit,hor'.len,hor'.live,fun e j he hj=>?_,hor'.pln⟩
  obtain⟨u,hu,hru⟩:=hor'.cell e j he hj
  exact⟨u,hu,hru.world (fun b hb=>.inl hb) (fun p _=>rfl)⟩
 ·exact h4.dis i j o1 o2 r1 r2 hne (hup g1).2 (hup g2).2
 ·obtain⟨hi,hx'⟩:=hup hx
  rintro(hz | hz)
  ·exact h4.zon i x r' hx' hr' p hp hz
  ·exact Rg.apart_has (h4.dis i id x o r' rg hi hx' (by simp) hr' hrg) hp hz
 ·rcases hp with hp | hp
  ·exact h4.zlt p hp
  ·obtain⟨p1,p2,p3,p4⟩:=hp
   obtain⟨⟨u,hu⟩,_⟩:=hor.live (p.off-rg.A.off) (by omega)
   have:=World.block_lt_of_cell? w' _ hu
   simp only[at_block]at this
   omega
 ·rcases hp with hp | hp
  ·exact h7 p hp
  ·rcases h8 id o rg (by simp) hrg p hp with h | ⟨i,x,r',hx,_⟩
   ·exact .inr h
   ·simp at hx
 ·exact h8 i x r' (hup hx).2
def frzAll:List (Nat×Ob)→AV→AV
 | [],r=>r
 | (id,o)::L,r=>frzAll L (Av.frz id o r)
theorem ACall.frzs {f:Nat} {args:List AV} {R:AV→List (Nat×Ob)→Prop} {R':AV→Prop} (h:ACall P f args [] R)
  (hr:∀ r L',R r L'→L'.length≤20∧(L'.map (·.1)).Nodup∧(∀ x∈L',clR x.2.els=true)∧∃ v,impA (frzAll L' r) v∧R' v):ACall P f args [] (fun r L'=>R' r∧L'=[]):=by
 have key:∀ (n:Nat) (R:AV→List (Nat×Ob)→Prop),ACall P f args [] R →
   (∀ r L',R r L'→L'.length≤n∧(L'.map (·.1)).Nodup∧(∀ x∈L',clR x.2.els=true)∧∃ v,impA (frzAll L' r) v∧R' v)→ACall P f args [] (fun r L'=>R' r∧L'=[]):=by
  intro n
  induction n with
  | zero =>
   intro R h hr
   refine h.imp fun r L' hR=>?_
   obtain⟨hl,_,_,v,hi,hv⟩:=hr r L' hR
   have:L'=[]:=List.eq_nil_of_length_eq_zero (by omega)
   subst this
   exact⟨v,hi,hv,rfl⟩
  | succ n ih =>
   intro R h hr
   refine ih (fun r L'=>L'.length≤n∧(L'.map (·.1)).Nodup∧(∀ x∈L',clR x.2.els=true)∧∃ v,impA (frzAll L' r) v∧R' v) (h.frz1 fun r L' hR=>?_) fun r L' h=>h
   obtain⟨hl,hn,hc,v,hi,hv⟩:=hr r L' hR
   cases L' with
   | nil=>exact .inl ⟨by simp,hn,hc,v,hi,hv⟩
   | cons x L2 =>
    obtain⟨id,o⟩:=x
    simp only[List.map_cons,List.nodup_cons,List.mem_cons,List.length_cons]at hn hc hl
    exact .inr ⟨id,o,L2,rfl,hn.1,hc _ (.inl rfl),fun x hx=>hc x (.inr hx),by omega,hn.2,fun x hx=>hc x (.inr hx),v,hi,hv⟩
 exact key 20 R h hr
theorem CV.of_frz {f:Nat} {args:List AV} {v:AV} {R:AV→List (Nat×Ob)→Prop} (h:ACall P f args [] R)
  (hr:∀ r L',R r L'→L'.length≤20∧(L'.map (·.1)).Nodup∧(∀ x∈L',clR x.2.els=true)∧impA (frzAll L' r) v) (he:qcb P f=true:=by kernel_rfl) (hca:clL args=true:=by simp) (hcv:clA v=true:=by simp):CV P f args v :=
 ⟨he,hca,hcv,ACall.frzs (R':=fun r=>r=v) h fun r L' hR=>by
  obtain⟨h1,h2,h3,h4⟩:=hr r L' hR
  exact⟨h1,h2,h3,v,h4,rfl⟩⟩
theorem CV.view {f:Nat} {args argsC:List AV} {v:AV} (h:CV P f argsC v) (h1:mtL s.h [] (plOf []) argsC args) (hK:K ⟨putA s.t d v,s.h,s.u⟩) (hn:noA v=true:=by simp):callA P f args d s K:=callA_vv h.en h.c h1 hn h.cv hK
structure CW (P:Program) (f:Nat) (args:List AV) (o:Ob) (v:AV):Prop where
 en:qcb P f=true
 cv:clA v=true
 co:clR o.els=true
 c:ACall P f args [(1000,o)] (fun r L'=>r=v∧L'=[(1000,o)])
theorem renOb_cl {ρ:Nat→Option Plc} {o:Ob} (h:clR o.els=true):renOb ρ o=o:=by
 unfold renOb
 have:o.els.map (renL ρ)=o.els:=by
  conv=>rhs;rw[← List.map_id o.els]
  refine List.map_congr_left fun r hr=>?_
  exact renL_closed.renL_closedL ρ r (List.all_eq_true.1 h r hr)
 rw[this]
theorem CW.call {f:Nat} {args args':List AV} {o:Ob} {v:AV} (h:CW P f args o v) (id:Nat) (hid:s.h id=some o) (hm:mtL (fun _=>none) [id] (plOf [(1000,.whole id)]) args args') (hK:K ⟨putA s.t d v,s.h,s.u⟩):callA P f args' d s K:=by
 refine qaf [(1000,.whole id)] h.en h.c hm (by simp) ⟨⟨o,hid,rfl,qah rfl h.co⟩,trivial⟩ (by simp) (by simp[hid]) ?_
 rintro r L' ⟨rfl,rfl⟩
 refine⟨[],⟨by simp,by simp,by simp,by simp,by simp⟩,?_⟩
 have e1:qan s [(1000,.whole id)] [] d r [(1000,o)]=⟨putA s.t d r,s.h,s.u⟩:=by
  simp only[qan,putH,putH1,ren2,plOf,if_true,remH,List.map_nil,Us.app_nil,renL_closed _ _ h.cv,renOb_cl h.co]
  congr 1
  funext i
  simp only[upd]
  split
  ·rename_i hi;rw[hi,hid]
  ·rfl
 rw[e1];exact hK
theorem takeS {α:Type} {l:List α} {x:α} {i:Nat} (h:l[i]?=some x):l.take (i+1)=l.take i++[x]:=by
 rw[List.take_add_one,h];rfl
theorem tk1 {α β:Type} {l:List α} {x:α} {i:Nat} (f:α→β) (h:l[i]?=some x):List.take (i+1) (l.map f)=List.take i (l.map f)++[f x]:=by
 rw[List.take_add_one,List.getElem?_map,h];rfl
def hdO (ins live:List Nat) (s:S) (up:List (Nat×AV)) (hp:List (Nat×Ob)):S :=
 ⟨mkT (live.map fun i=>(i,(getU up i).getD (s.t i))),hpOf hp,Us.of (ins++hp.map (·.1))⟩
attribute [simp] hdO
theorem ev_lo {a:ACode} {X:Type} (live:List Nat) (φ:List (Nat×Nat)) (up:X→List (Nat×AV)) (hp:X→List (Nat×Ob)) (meas:X→Nat) (good:X→Prop) (x0:X)
  (hg:good x0) (round:∀ x,good x→ev P E a (thenQ (nextX E live (fun x=>hdO E.ins live s (up x) (hp x)) meas good x) Q) (hdO E.ins live s (up x) (hp x)))
  (h0:qab E φ s:=by simp) (he:canon E.ins live φ s=hdO E.ins live s (up x0) (hp x0):=by simp):ev P E (.loop a) Q s :=
 qat live (fun x=>hdO E.ins live s (up x) (hp x)) meas good x0 ⟨hg,φ,h0,he⟩ round
theorem ev_sw {a:ACode} {s':S} (hw:SW E s s') (h:ev P E (.loop a) Q s'):ev P E (.loop a) Q s:=va_pre hw h
end
end Go.Av
end
section
namespace Go.Av
open Go.RowKit
section
variable {P:Program} {E:Env} {s:S} {Q:Exit→S→Prop} {K:S→Prop} {d:Option Nat}
theorem cwx {f:Nat} {fn:Func} {b:Code} {ac:ACode} {n:Nat} {rs:List ResultVar} {args:List AV} {o:Ob} {v:AV} (hf:P.funcs[f]?=some fn) (pl:List (Nat×List Itm)) (hn:fn.ntmps=n) (hb:fn.body=some b)
  (hc:cp n pl b=some ac) (hr:fn.results.toList=rs)
  (h:ev P ⟨n,[1000]⟩ ac (retQ P rs (fun r L'=>r=v∧L'=[(1000,o)])) ⟨argT args,hpOf [(1000,o)],Us.of [1000]⟩) (hk:planned pl fn=true:=by kernel_rfl) (hbd:hasBody P f=true:=by kernel_rfl) (he:qcb P f=true:=by kernel_rfl) (ha:args.length≤n:=by simp) (hcv:clA v=true:=by simp) (hco:clR o.els=true:=by simp):CW P f args o v :=
 ⟨he,hcv,hco,acx hf pl hn hb hc hr h hk hbd ha (by simp)⟩
end
end Go.Av
end
section
namespace Go.Av
open Go.RowKit
theorem clR_app {a b:List (List AV)} (h1:clR a=true) (h2:clR b=true):clR (a++b)=true:=by
 simp only[clR,List.all_append,Bool.and_eq_true]at *;exact⟨h1,h2⟩
theorem clR_take {a:List (List AV)} (n:Nat) (h:clR a=true):clR (a.take n)=true:=by
 simp only[clR,List.all_eq_true]at *;exact fun x hx=>h x (List.mem_of_mem_take hx)
theorem below_cell {w w':World} (h:Below w.heap.size w w') {p:Addr} (hp:p.block<w.heap.size):w'.cell? p=w.cell? p:=by
 simp only[World.cell?,h.block p.block hp]
theorem cv_of_calls {P:Program} {f:Nat} {args:List AV} {v:AV}
  (h:∀ (w:World) (Z:Addr→Prop) (vs:Array Value),CRel w Z noG args vs→GlR w Z→(∀ p,Z p→p.block<w.heap.size)→Calls P f vs w fun e w'=>∃ u Z',e=.returned u∧AVRel w' Z' noG v u∧Below w.heap.size w w'∧(∀ p,Z p→Z' p)∧∀ p,Z' p→Z p∨w.heap.size≤p.block∧p.block<w'.heap.size)
  (he:qcb P f=true:=by kernel_rfl) (hb:hasBody P f=true:=by kernel_rfl) (hca:clL args=true:=by simp) (hcv:clA v=true:=by simp):CV P f args v:=by
 refine⟨he,hca,hcv,fun w Z γ vs hv hh hg=>.inl ⟨hb,(h w Z vs ⟨hv.1,fun j hj=>(hv.2 j hj).closed (clL_getD _ _ hca)⟩ hh.gl hh.zlt).mono ?_⟩⟩
 rintro e w' ⟨u,Z',rfl,hr,hbl,h1,h2⟩
 refine⟨u,v,[],Z',noG,rfl,⟨rfl,rfl⟩,hr,⟨fun i o ho=>by simp at ho,fun i j o1 o2 r1 r2 _ g1=>by simp at g1,fun i o r ho=>by simp at ho,fun p hp=>?_,hh.gl.world h1 fun p hp=>below_cell hbl (hh.zlt p hp)⟩,.of_below hbl,h1,fun p hp=>(h2 p hp).imp id And.left,fun i o r ho=>by simp at ho,fun i o ho=>by simp at ho⟩
 rcases h2 p hp with h | ⟨_,h⟩
 ·exact Nat.lt_of_lt_of_le (hh.zlt p h) hbl.size
 ·exact h
theorem qcg {P:Program} {f:Nat} {args:List AV} {v:AV}
  (h:∀ (w:World) (Z:Addr→Prop) (vs:Array Value),CRel w Z noG args vs→GlR w Z→(∀ p,Z p→p.block<w.heap.size)→Calls P f vs w fun e w'=>∃ u,e=.returned u∧AVRel w' Z noG v u∧Below w.heap.size w w')
  (he:qcb P f=true:=by kernel_rfl) (hb:hasBody P f=true:=by kernel_rfl) (hca:clL args=true:=by simp) (hcv:clA v=true:=by simp):CV P f args v :=
 cv_of_calls (fun w Z vs h1 h2 h3=>(h w Z vs h1 h2 h3).mono fun e w' ⟨u,a,b,c⟩=>⟨u,Z,a,b,c,fun _ h=>h,fun _ h=>.inl h⟩) he hb hca hcv
theorem crel1 {w:World} {Z:Addr→Prop} {γ:Gm} {a:AV} {vs:Array Value} (h:CRel w Z γ [a] vs):∃ x,vs=#[x]∧AVRel w Z γ a x:=by
 obtain⟨hs,hr⟩:=h
 have h0:=hr 0 (by simp)
 refine⟨vs.getD 0 undef,?_,by simpa using h0⟩
 apply Array.ext
 ·simpa using hs
 ·intro i h1 h2
  have:i=0:=by simp at h2;omega
  subst this
  simp[Array.getD,h1]
theorem crel2 {w:World} {Z:Addr→Prop} {γ:Gm} {a b:AV} {vs:Array Value} (h:CRel w Z γ [a,b] vs):∃ x y,vs=#[x,y]∧AVRel w Z γ a x∧AVRel w Z γ b y:=by
 obtain⟨hs,hr⟩:=h
 have h0:=hr 0 (by simp)
 have h1:=hr 1 (by simp)
 refine⟨vs.getD 0 undef,vs.getD 1 undef,?_,by simpa using h0,by simpa using h1⟩
 apply Array.ext
 ·simpa using hs
 ·intro i g1 g2
  have:i=0∨i=1:=by simp at g2;omega
  rcases this with rfl | rfl <;> simp[Array.getD,g1]
theorem gl_var {w:World} {Z:Addr→Prop} (h:GlR w Z) {g:Nat} {cs:List AV} (hg:gtab g=some cs) (vs:List Value) (hl:vs.length=cs.length) (hv:∀ (x:Value) j,j<cs.length→AVRel w Z noG (cs.getD j .top) x→x=vs.getD j undef) (hne:cs≠[]) :
  ∃ ty fz,w.heap[g]?=some (.cells vs.toArray ty fz):=by
 obtain⟨h1,h2,h3⟩:=h g cs hg
 generalize hp:(Value.pointer (some ⟨g,0,none⟩))=u at h1
 cases h1 with
 | elm _ _ A vf hA hz hc hr =>
  injection hp with hp;injection hp with hp;subst hp
  have hlen:0<cs.length:=List.length_pos_iff.2 hne
  have c0:=hc 0 hlen
  simp only[World.cell?,Addr.at,Nat.add_zero,Nat.zero_add]at c0 h3
  cases hh:w.heap[g]? with
  | none=>simp[hh]at c0
  | some o =>
   cases o with
   | cells c ty fz =>
    refine⟨ty,fz,?_⟩
    simp only[hh]at h3
    have hsz:c.size≤cs.length:=by
     rcases Nat.lt_or_ge cs.length c.size with h | h
     ·simp[Array.getElem?_eq_getElem h]at h3
     ·exact h
    congr 2
    apply Array.ext_getElem?
    intro i
    by_cases hi:i<cs.length
    ·have ci:c[i]?=some (vf i):=by simpa [World.cell?,Addr.at,hh]using hc i hi
     rw[ci]
     have:=hv (vf i) i hi (hr i hi)
     rw[this]
     simp[List.getD,hl,hi]
    ·rw[Array.getElem?_eq_none (by omega),Array.getElem?_eq_none (by simp;omega)]
   | _=>simp[hh]at c0
theorem map_cl {E:List (List AV)} (ρ:Nat→Option Plc) (h:clR E=true):E.map (renL ρ)=E:=by
 induction E with
 | nil=>rfl
 | cons a r ih =>
  simp only[clR,List.all_cons,Bool.and_eq_true]at h
  rw[List.map_cons,renL_closed.renL_closedL ρ a h.1,ih (by simpa [clR]using h.2)]
end Go.Av
end
section
namespace Go.Av
open Go.RowKit
section
variable {P:Program}
def N0 (N:List (Nat×Nat)):List (Nat×Ob):=N.map fun p=>(p.1,⟨p.2,[]⟩)
def phsN (N:List (Nat×Nat)) (r r2:AV):Prop:=∀ (w:World) (Z:Addr→Prop) (γ:Gm) (v:Value),(∀ i o,hpOf (N0 N) i=some o→γ i=some ⟨⟨0,0,none⟩,0,o.sz⟩)→AVRel w Z γ r v→AVRel w Z γ r2 v
theorem phsN_refl (N:List (Nat×Nat)) (r:AV):phsN N r r:=fun _ _ _ _ _ h=>h
inductive phL (N:List (Nat×Nat)):List AV→List AV→Prop
 | nil:phL N [] []
 | cons {a b:AV} {as bs:List AV} (h:phsN N a b) (t:phL N as bs):phL N (a::as) (b::bs)
theorem phL.len {N:List (Nat×Nat)} {as bs:List AV} (h:phL N as bs):as.length=bs.length:=by
 induction h with
 | nil=>rfl
 | cons _ _ ih=>simp[ih]
theorem phL.at {N:List (Nat×Nat)} {as bs:List AV} (h:phL N as bs):∀ j,phsN N (as.getD j .top) (bs.getD j .top):=by
 induction h with
 | nil=>intro j;exact phsN_refl N _
 | cons h _ ih =>
  intro j
  match j with
  | 0=>exact h
  | j+1=>exact ih j
end
end Go.Av
end
