/- Lemmas for the proof, no statement of the seat; no conditions. -/
import Derived.Test.YthgigdhkcffloaaGreatDoorLayAG
import Derived.RangeFuncNested
set_option linter.unusedSimpArgs false
set_option linter.unusedVariables false
set_option linter.unnecessarySimpa false
set_option maxRecDepth 100000
section
namespace Go.Av
open Go.RowKit
section
variable {P:Program} {E:Env} {s:S} {Q:Exit→S→Prop} {K:S→Prop} {d:Option Nat}
theorem impA_sl0 (id e:Nat):impA .nils (.sl id e 0):=fun w Z γ v h=>by
 cases h
 exact .sl0 _ _ _ _
theorem impA_agg {cs ds:List AV} (hl:cs.length=ds.length) (h:∀ j,j<cs.length→impA (cs.getD j .top) (ds.getD j .top)):impA (.agg cs) (.agg ds):=fun w Z γ v hr=>by
 cases hr with
 | agg _ _ vs hs hr=>exact .agg _ _ _ (by omega) fun j hj=>h j (by omega) w Z γ _ (hr j (by omega))
theorem impA_tup {cs ds:List AV} (hl:cs.length=ds.length) (h:∀ j,j<cs.length→impA (cs.getD j .top) (ds.getD j .top)):impA (.tup cs) (.tup ds):=fun w Z γ v hr=>by
 cases hr with
 | tup _ _ vs hs hr=>exact .tup _ _ _ (by omega) fun j hj=>h j (by omega) w Z γ _ (hr j (by omega))
inductive impL:List AV→List AV→Prop
 | nil:impL [] []
 | cons {a b:AV} {r q:List AV} (h:impA a b) (t:impL r q):impL (a::r) (b::q)
theorem impL_get {cs ds:List AV} (h:impL cs ds):cs.length=ds.length∧∀ j,impA (cs.getD j .top) (ds.getD j .top):=by
 induction h with
 | nil=>grind[qaz]
 | cons h t ih =>
  refine⟨by grind,fun j=>?_⟩
  cases j with
  | zero=>grind
  | succ j=>simp_all
theorem impA_ag {cs ds:List AV} (h:impL cs ds):impA (.agg cs) (.agg ds):=impA_agg (impL_get h).1 fun j _=>(impL_get h).2 j
theorem impA_tu {cs ds:List AV} (h:impL cs ds):impA (.tup cs) (.tup ds):=impA_tup (impL_get h).1 fun j _=>(impL_get h).2 j
theorem sw_pht (id sz:Nat) (hu:id ∉ s.u):SW E s ⟨s.t,upd s.h id (some ⟨sz,[]⟩),Us.cons id s.u⟩:=fun cx Z γ a w hn hin hs=>by
 have hg:γ id=none:=by
  cases hgd:γ id with
  | none=>rfl
  | some r=>exact absurd (hs.scp id r hgd) hu
 have hgm:∀ i s,γ i=some s→upd γ id (some ⟨⟨0,0,none⟩,0,sz⟩) i=some s:=by
  grind[qam]
 have key:∀ i o r,i≠id→upd s.h id (some ⟨sz,[]⟩) i=some o→upd γ id (some ⟨⟨0,0,none⟩,0,sz⟩) i=some r→s.h i=some o∧γ i=some r:=fun i o r hi ho hr=>by
  simp_all
 refine⟨Z,upd γ id (some ⟨⟨0,0,none⟩,0,sz⟩),fun i=>(hs.tmp i).gmono hgm,hs.siz,hs.dfr,⟨fun i o ho=>?_,fun i j o1 o2 s1 s2 hne h1 h2 g1 g2=>?_,fun i o r ho hr p hp=>?_,hs.hp.zlt,hs.hp.gl⟩,hs.fr,fun i o r ho hr p hp=>?_,hs.z0,hs.z1,fun i r hr=>?_,hs.in0,hs.inp_u hu⟩
 ·by_cases hi:i=id
  ·subst hi
   simp only at ho
   rw[qaj]at ho ⊢
   injection ho with ho;subst ho
   exact⟨_,rfl,rfl,rfl,by simp,fun e he=>by grind,fun k hk=>by grind,fun e j he=>by grind,fun _ h2=>by grind⟩
  ·simp only at ho
   rw[qam _ _ hi]at ho
   obtain⟨r,hr,hor⟩:=hs.hp.obj i o ho
   exact⟨r,hgm _ _ hr,hor.spot,hor.sz,hor.fit,hor.len,hor.live,fun k j hk hj=>by
    obtain⟨v,hv,hrv⟩:=hor.cell k j hk hj
    exact⟨v,hv,hrv.gmono hgm⟩,hor.pln⟩
 ·by_cases hi:i=id
  ·subst hi
   rw[qaj]at g1
   injection g1 with g1;subst g1
   exact .inl rfl
  ·by_cases hj:j=id
   ·subst hj
    rw[qaj]at g2
    injection g2 with g2;subst g2
    exact .inr (.inl rfl)
   ·obtain⟨a1,a2⟩:=key i o1 s1 hi h1 g1
    obtain⟨b1,b2⟩:=key j o2 s2 hj h2 g2
    exact hs.hp.dis i j o1 o2 s1 s2 hne a1 b1 a2 b2
 ·by_cases hi:i=id
  ·subst hi
   rw[qaj]at hr
   injection hr with hr;subst hr
   have:=hp.2.2.1;grind
  ·obtain⟨a1,a2⟩:=key i o r hi ho hr
   exact hs.hp.zon i o r a1 a2 p hp
 ·by_cases hi:i=id
  ·subst hi
   rw[qaj]at hr
   injection hr with hr;subst hr
   have:=hp.2.2.1;grind
  ·obtain⟨a1,a2⟩:=key i o r hi ho hr
   exact hs.own i o r a1 a2 p hp
 ·by_cases hi:i=id
  ·simp_all
  ·rw[qam _ _ hi]at hr;exact .inr (hs.scp i r hr)
theorem ACall.can {f:Nat} {args:List AV} {L:List (Nat×Ob)} {R R':AV→List (Nat×Ob)→Prop} (h:ACall P f args L R)
  (hr:∀ r L',R r L'→∃ φ:List (Nat×Nat),(∀ p∈φ,(hpOf L' p.1).isSome=true)∧(φ.map (·.2)).Nodup∧(∀ p∈φ,p.2∈L.map (·.1)→p.1=p.2)∧(φ.map (·.1)).Nodup∧R' (ren (rho φ) r) (φ.map fun p=>(p.2,obOf (rho φ) (hpOf L' p.1)))):ACall P f args L R':=by
 intro w Z γ vs hv hh hg
 refine(h w Z γ vs hv hh hg).mono ?_
 rintro e w' ⟨v,r,L',Z',g1,rfl,k2,k3,k4,k5,k6,k7,k8,k9⟩
 obtain⟨φ,h1,h2,h3,h4,hR⟩:=hr r L' k2
 let γ':Gm:=fun id=>if id∈L.map (·.1) then g1 id else match phInv φ id with
  | some old=>g1 old
  | none=>none
 have hmem:∀ {o n},(o,n)∈φ→γ' n=g1 o:=fun {o n} hm=>by
  show(if n∈L.map (·.1) then g1 n else match phInv φ n with | some old=>g1 old | none=>none)=g1 o
  split
  ·grind
  ·rw[phInv_of h2 hm]
 have hok:PlcOk g1 γ' (rho φ):=fun c=>by
  unfold rho
  cases hc:phOf φ c<;>grind[phOf_mem]
 have hob:∀ id o,hpOf (φ.map fun p=>(p.2,obOf (rho φ) (hpOf L' p.1))) id=some o→∃ old oo,(old,id)∈φ∧hpOf L' old=some oo∧o=renOb (rho φ) oo:=fun id o ho=>by
  have:=qbl ho
  simp only[List.mem_map,Prod.mk.injEq]at this
  obtain⟨p,hp,e1,e2⟩:=this
  have h5:=h1 p hp
  cases hx:hpOf L' p.1 with
  | none=>grind
  | some oo =>
   rw[hx]at e2
   obtain⟨p1,p2⟩:=p
   subst e1
   exact⟨p1,oo,hp,hx,e2.symm⟩
 refine⟨v,_,_,Z',γ',rfl,hR,k3.ren hok,⟨fun id o ho=>?_,fun i j o1 o2 r1 r2 hne g1 g2 e1 e2=>?_,fun id o r ho hr=>?_,k4.zlt,k4.gl⟩,k5,k6,k7,fun id o r ho hr=>?_,fun id o ho=>?_⟩
 ·obtain⟨old,oo,hm,hoo,rfl⟩:=hob id o ho
  obtain⟨r,hr,hor⟩:=k4.obj old oo hoo
  refine⟨r,(hmem hm).trans hr,hor.spot,hor.sz,by simpa [renOb]using hor.fit,fun e he=>?_,hor.live,fun e j he hj=>?_,hor.pln⟩
  ·simp only[renOb,List.length_map]at he
   have e1:(oo.els.map (renL (rho φ))).getD e []=renL (rho φ) (oo.els.getD e []):=by grind
   simp only[renOb,e1,qbi];exact hor.len e he
  ·simp only[renOb,List.length_map]at he hj
   obtain⟨v,hv,hr'⟩:=hor.cell e j he hj
   have e1:(oo.els.map (renL (rho φ))).getD e []=renL (rho φ) (oo.els.getD e []):=by grind
   refine⟨v,hv,?_⟩
   simp only[renOb,e1,renL_getD]
   exact hr'.ren hok
 ·obtain⟨old1,oo1,hm1,hoo1,rfl⟩:=hob i o1 g1
  obtain⟨old2,oo2,hm2,hoo2,rfl⟩:=hob j o2 g2
  rw[hmem hm1]at e1
  rw[hmem hm2]at e2
  refine k4.dis old1 old2 oo1 oo2 r1 r2 (fun e=>?_) hoo1 hoo2 e1 e2
  grind[nodup_fst]
 ·obtain⟨old,oo,hm,hoo,rfl⟩:=hob id o ho
  rw[hmem hm]at hr
  exact k4.zon old oo r hoo hr
 ·grind
 ·show(if id∈L.map (·.1) then g1 id else match phInv φ id with | some old=>g1 old | none=>none)=_
  rw[if_pos (List.mem_map.2 ⟨_,qbl ho,rfl⟩)];grind
theorem hpOf_cons_ne {id i:Nat} {o x:Ob} {L:List (Nat×Ob)} (hid:id ∉ L.map (·.1)) (h:hpOf L i=some x):i≠id∧hpOf ((id,o)::L) i=some x:=by
 have hm:=qbl h
 have:i≠id:=by grind
 simp_all
theorem ACall.frz1 {f:Nat} {args:List AV} {R R':AV→List (Nat×Ob)→Prop} (h:ACall P f args [] R)
  (hr:∀ r L',R r L'→R' r L'∨∃ id o L2,L'=(id,o)::L2∧id ∉ L2.map (·.1)∧clR o.els=true∧(∀ x∈L2,clR x.2.els=true)∧R' (Av.frz id o r) L2):ACall P f args [] R':=by
 intro w Z γ vs hv hh hg
 refine(h w Z γ vs hv hh hg).mono ?_
 rintro e w' ⟨v,r,L',Z',γ',h1,h2,h3,h4,h5,h6,h7,h8,h9⟩
 rcases hr r L' h2 with hk | ⟨id,o,L2,rfl,hid,hcl,hcl2,hR⟩
 ·grind
 obtain⟨rg,hrg,hor⟩:=h4.obj id o (by simp)
 have hup:∀ {i x},hpOf L2 i=some x→i≠id∧hpOf ((id,o)::L2) i=some x:=fun h=>hpOf_cons_ne hid h
 refine⟨v,Av.frz id o r,L2,fun p=>Z' p∨rg.has p,γ',h1,hR,h3.frz hrg hor hcl,⟨fun i x hx=>?_,fun i j o1 o2 r1 r2 hne g1 g2=>?_,fun i x r' hx hr' p hp=>?_,fun p hp=>?_,h4.gl.world (fun _ h=>.inl h) (fun _ _=>rfl)⟩,h5,fun p hp=>.inl (h6 p hp),fun p hp=>?_,fun i x r' hx=>?_,h9⟩
 ·obtain⟨hi,hx'⟩:=hup hx
  obtain⟨r',hr',hor'⟩:=h4.obj i x hx'
  refine⟨r',hr',hor'.spot,hor'.sz,hor'.fit,hor'.len,hor'.live,fun e j he hj=>?_,hor'.pln⟩
  obtain⟨u,hu,hru⟩:=hor'.cell e j he hj
  exact⟨u,hu,hru.world (fun b hb=>.inl hb) (fun p _=>rfl)⟩
 ·exact h4.dis i j o1 o2 r1 r2 hne (hup g1).2 (hup g2).2
 ·obtain⟨hi,hx'⟩:=hup hx
  rintro(hz | hz)
  ·exact h4.zon i x r' hx' hr' p hp hz
  ·exact Rg.apart_has (h4.dis i id x o r' rg hi hx' (by simp) hr' hrg) hp hz
 ·rcases hp with hp | hp
  ·exact h4.zlt p hp
  ·obtain⟨p1,p2,p3,p4⟩:=hp
   obtain⟨⟨u,hu⟩,_⟩:=hor.live (p.off-rg.A.off) (by omega)
   have:=World.block_lt_of_cell? w' _ hu
   grind[at_block]
 ·rcases hp with hp | hp
  ·grind
  ·rcases h8 id o rg (by simp) hrg p hp with h | ⟨i,x,r',hx,_⟩
   all_goals simp_all
 grind
def qcf:List (Nat×Ob)→AV→AV
 | [],r=>r
 | (id,o)::L,r=>qcf L (Av.frz id o r)
theorem ACall.frzs {f:Nat} {args:List AV} {R:AV→List (Nat×Ob)→Prop} {R':AV→Prop} (h:ACall P f args [] R)
  (hr:∀ r L',R r L'→L'.length≤20∧(L'.map (·.1)).Nodup∧(∀ x∈L',clR x.2.els=true)∧∃ v,impA (qcf L' r) v∧R' v):ACall P f args [] (fun r L'=>R' r∧L'=[]):=by
 have key:∀ (n:Nat) (R:AV→List (Nat×Ob)→Prop),ACall P f args [] R →
   (∀ r L',R r L'→L'.length≤n∧(L'.map (·.1)).Nodup∧(∀ x∈L',clR x.2.els=true)∧∃ v,impA (qcf L' r) v∧R' v)→ACall P f args [] (fun r L'=>R' r∧L'=[]):=by
  intro n
  induction n with
  | zero =>
   intro R h hr
   refine h.imp fun r L' hR=>?_
   obtain⟨hl,_,_,v,hi,hv⟩:=hr r L' hR
   have:L'=[]:=List.eq_nil_of_length_eq_zero (by omega)
   subst this
   exact⟨v,hi,hv,rfl⟩
  | succ n ih =>
   intro R h hr
   refine ih (fun r L'=>L'.length≤n∧(L'.map (·.1)).Nodup∧(∀ x∈L',clR x.2.els=true)∧∃ v,impA (qcf L' r) v∧R' v) (h.frz1 fun r L' hR=>?_) fun r L' h=>h
   obtain⟨hl,hn,hc,v,hi,hv⟩:=hr r L' hR
   cases L' with
   | nil=>grind
   | cons x L2 =>
    obtain⟨id,o⟩:=x
    simp only[List.map_cons,List.nodup_cons,List.mem_cons,List.length_cons]at hn hc hl
    exact .inr ⟨id,o,L2,rfl,hn.1,hc _ (.inl rfl),fun x hx=>hc x (.inr hx),by omega,hn.2,fun x hx=>hc x (.inr hx),v,hi,hv⟩
 exact key 20 R h hr
theorem CV.of_frz {f:Nat} {args:List AV} {v:AV} {R:AV→List (Nat×Ob)→Prop} (h:ACall P f args [] R)
  (hr:∀ r L',R r L'→L'.length≤20∧(L'.map (·.1)).Nodup∧(∀ x∈L',clR x.2.els=true)∧impA (qcf L' r) v) (he:enters P f=true:=by kernel_rfl) (hca:clL args=true:=by simp) (hcv:clA v=true:=by simp):CV P f args v :=
 ⟨he,hca,hcv,ACall.frzs (R':=fun r=>r=v) h fun r L' hR=>by
  grind⟩
theorem CV.view {f:Nat} {args argsC:List AV} {v:AV} (h:CV P f argsC v) (h1:mtL s.h [] (plOf []) argsC args) (hK:K ⟨putA s.t d v,s.h,s.u⟩) (hn:noA v=true:=by simp):callA P f args d s K:=callA_vv h.en h.c h1 hn h.cv hK
structure CW (P:Program) (f:Nat) (args:List AV) (o:Ob) (v:AV):Prop where
 en:enters P f=true
 cv:clA v=true
 co:clR o.els=true
 c:ACall P f args [(1000,o)] (fun r L'=>r=v∧L'=[(1000,o)])
theorem renOb_cl {ρ:Nat→Option Plc} {o:Ob} (h:clR o.els=true):renOb ρ o=o:=by
 unfold renOb
 have:o.els.map (renL ρ)=o.els:=by
  conv=>rhs;rw[← List.map_id o.els]
  refine List.map_congr_left fun r hr=>?_
  simp_all[renL_closed.renL_closedL]
 simp_all
theorem CW.call {f:Nat} {args args':List AV} {o:Ob} {v:AV} (h:CW P f args o v) (id:Nat) (hid:s.h id=some o) (hm:mtL (fun _=>none) [id] (plOf [(1000,.whole id)]) args args') (hK:K ⟨putA s.t d v,s.h,s.u⟩):callA P f args' d s K:=by
 refine qac [(1000,.whole id)] h.en h.c hm (by simp) ⟨⟨o,hid,rfl,qad rfl h.co⟩,trivial⟩ (by simp) (by simp_all) ?_
 rintro r L' ⟨rfl,rfl⟩
 refine⟨[],⟨by simp,by simp,by simp,by simp,by simp⟩,?_⟩
 have e1:qae s [(1000,.whole id)] [] d r [(1000,o)]=⟨putA s.t d r,s.h,s.u⟩:=by
  simp only[qae,putH,putH1,ren2,plOf,if_true,remH,List.map_nil,Us.app_nil,renL_closed _ _ h.cv,renOb_cl h.co]
  congr 1
  grind[upd]
 grind
theorem takeS {α:Type} {l:List α} {x:α} {i:Nat} (h:l[i]?=some x):l.take (i+1)=l.take i++[x]:=by
 grind[List.take_add_one]
theorem tk1 {α β:Type} {l:List α} {x:α} {i:Nat} (f:α→β) (h:l[i]?=some x):List.take (i+1) (l.map f)=List.take i (l.map f)++[f x]:=by
 grind[List.take_add_one]
def hdO (ins live:List Nat) (s:S) (up:List (Nat×AV)) (hp:List (Nat×Ob)):S :=
 ⟨mkT (live.map fun i=>(i,(getU up i).getD (s.t i))),hpOf hp,Us.of (ins++hp.map (·.1))⟩
attribute [simp] hdO
theorem ev_lo {a:ACode} {X:Type} (live:List Nat) (φ:List (Nat×Nat)) (up:X→List (Nat×AV)) (hp:X→List (Nat×Ob)) (meas:X→Nat) (good:X→Prop) (x0:X)
  (hg:good x0) (round:∀ x,good x→ev P E a (thenQ (nextX E live (fun x=>hdO E.ins live s (up x) (hp x)) meas good x) Q) (hdO E.ins live s (up x) (hp x)))
  (h0:qab E φ s:=by simp) (he:canon E.ins live φ s=hdO E.ins live s (up x0) (hp x0):=by simp):ev P E (.loop a) Q s :=
 qbu live (fun x=>hdO E.ins live s (up x) (hp x)) meas good x0 ⟨hg,φ,h0,he⟩ round
theorem ev_sw {a:ACode} {s':S} (hw:SW E s s') (h:ev P E (.loop a) Q s'):ev P E (.loop a) Q s:=va_pre hw h
end
end Go.Av

end
section
namespace Go.Av
open Go.RowKit
section
variable {P:Program} {E:Env} {s:S} {Q:Exit→S→Prop} {K:S→Prop} {d:Option Nat}
theorem cwx {f:Nat} {fn:Func} {b:Code} {ac:ACode} {n:Nat} {rs:List ResultVar} {args:List AV} {o:Ob} {v:AV} (hf:P.funcs[f]?=some fn) (pl:List (Nat×List Itm)) (hn:fn.ntmps=n) (hb:fn.body=some b)
  (hc:cp n pl b=some ac) (hr:fn.results.toList=rs)
  (h:ev P ⟨n,[1000]⟩ ac (retQ P rs (fun r L'=>r=v∧L'=[(1000,o)])) ⟨argT args,hpOf [(1000,o)],Us.of [1000]⟩) (hk:planned pl fn=true:=by kernel_rfl) (hbd:hasBody P f=true:=by kernel_rfl) (he:enters P f=true:=by kernel_rfl) (ha:args.length≤n:=by simp) (hcv:clA v=true:=by simp) (hco:clR o.els=true:=by simp):CW P f args o v :=
 ⟨he,hcv,hco,acx hf pl hn hb hc hr h hk hbd ha (by simp)⟩
end
end Go.Av

end
section
namespace Go.Av
open Go.RowKit
theorem acv {P:Program} {f:Nat} {fn:Func} {b:Code} {ac:ACode} {n:Nat} {rs:List ResultVar} {args:List AV} {L:List (Nat×Ob)} {R:AV→List (Nat×Ob)→Prop} (hf:P.funcs[f]?=some fn) (pl:List (Nat×List Itm)) (hn:fn.ntmps=n) (hb:fn.body=some b)
  (hc:cp n pl b=some ac) (hr:fn.results.toList=rs)
  (h:VA P ⟨n,L.map (·.1)⟩ ac ⟨argT args,hpOf L,Us.of (L.map (·.1))⟩ (retQ P rs R)) (hk:planned pl fn=true:=by kernel_rfl) (hbd:hasBody P f=true:=by kernel_rfl) (ha:args.length≤n:=by simp) (hL:(L.map (·.1)).Nodup:=by simp):ACall P f args L R :=
 acallA hbd n (colP pl b) rs hf (by grind[cp_eq,planned]) hn hr ha hL h
end Go.Av

end
section
namespace Go.Av
open Go.RowKit
section
variable {P:Program}
def N0 (N:List (Nat×Nat)):List (Nat×Ob):=N.map fun p=>(p.1,⟨p.2,[]⟩)
theorem N0_els {N:List (Nat×Nat)} {i:Nat} {o:Ob} (h:hpOf (N0 N) i=some o):o.els=[]:=by
 obtain⟨p,_,he⟩:=List.mem_map.1 (qbl h)
 grind
def phsN (N:List (Nat×Nat)) (r r2:AV):Prop:=∀ (w:World) (Z:Addr→Prop) (γ:Gm) (v:Value),(∀ i o,hpOf (N0 N) i=some o→γ i=some ⟨⟨0,0,none⟩,0,o.sz⟩)→AVRel w Z γ r v→AVRel w Z γ r2 v
theorem phsN_refl (N:List (Nat×Nat)) (r:AV):phsN N r r:=fun _ _ _ _ _ h=>h
theorem phsN_nil {N:List (Nat×Nat)} (id:Nat):phsN N .nils (.sl id 0 0):=fun _ _ _ _ _ h=>by cases h;exact .sl0 _ _ _ _
inductive phL (N:List (Nat×Nat)):List AV→List AV→Prop
 | nil:phL N [] []
 | cons {a b:AV} {as bs:List AV} (h:phsN N a b) (t:phL N as bs):phL N (a::as) (b::bs)
theorem phL.len {N:List (Nat×Nat)} {as bs:List AV} (h:phL N as bs):as.length=bs.length:=by
 induction h<;>grind
theorem phL.at {N:List (Nat×Nat)} {as bs:List AV} (h:phL N as bs):∀ j,phsN N (as.getD j .top) (bs.getD j .top):=by
 induction h with
 | nil=>simp[phsN_refl]
 | cons h _ ih =>
  intro j
  match j with
  | 0=>exact h
  | j+1=>exact ih j
theorem phsN_agg {N:List (Nat×Nat)} {cs ds:List AV} (h:phL N cs ds):phsN N (.agg cs) (.agg ds):=fun w Z γ v hg hr=>by
 cases hr with
 | agg _ _ vs hs hr=>exact .agg _ _ _ (by rw[hs,h.len]) fun j hj=>h.at j w Z γ _ hg (hr j (by rw[h.len];omega))
theorem hpOf_none_mem:∀ {l:List (Nat×Ob)} {i:Nat} {o:Ob},hpOf l i=none→(i,o)∈l→False
 | [],_,_,_,h=>by grind
 | (j,x)::r,i,o,h,hm=>by
  simp only[hpOf_cons]at h
  split at h
  ·grind
  ·rename_i hne
   rcases List.mem_cons.1 hm with e | e
   ·grind
   ·exact hpOf_none_mem h e
theorem hpOf_app_right:∀ {l r:List (Nat×Ob)} {i:Nat},(∀ p∈l,p.1≠i)→hpOf (l++r) i=hpOf r i
 | [],_,_,_=>rfl
 | (j,x)::l,r,i,h=>by
  have h1:¬ i=j:=fun e=>h (j,x) (by simp) e.symm
  rw[List.cons_append,hpOf_cons,if_neg h1]
  exact hpOf_app_right fun p hp=>h p (by simp[hp])
theorem ACall.canN {f:Nat} {args:List AV} {R R':AV→List (Nat×Ob)→Prop} (h:ACall P f args [] R)
  (hr:∀ r L',R r L'→∃ N φ:List (Nat×Nat),(∀ p∈φ,(hpOf L' p.1).isSome=true)∧(φ.map (·.2)).Nodup∧(φ.map (·.1)).Nodup∧(∀ p∈φ,hpOf (N0 N) p.2=none) ∧
   ∃ r2,phsN N (ren (rho φ) r) r2∧R' r2 ((φ.map fun p=>(p.2,obOf (rho φ) (hpOf L' p.1)))++N0 N)):ACall P f args [] R':=by
 intro w Z γ vs hv hh hg
 refine(h w Z γ vs hv hh hg).mono ?_
 rintro e w' ⟨v,r,L',Z',g1,rfl,k2,k3,k4,k5,k6,k7,k8,k9⟩
 obtain⟨N,φ,h1,h2,h4,h5,r2,hp2,hR⟩:=hr r L' k2
 let γ':Gm:=fun id=>match hpOf (N0 N) id with
  | some o=>some ⟨⟨0,0,none⟩,0,o.sz⟩
  | none=>match phInv φ id with
   | some old=>g1 old
   | none=>none
 have hγ:∀ i o,hpOf (N0 N) i=some o→γ' i=some ⟨⟨0,0,none⟩,0,o.sz⟩:=fun i o ho=>by
  grind
 have hmem:∀ {o n},(o,n)∈φ→γ' n=g1 o:=fun {o n} hm=>by
  show(match hpOf (N0 N) n with
   | some o=>some (⟨⟨0,0,none⟩,0,o.sz⟩:Rg)
   | none=>match phInv φ n with
    | some old=>g1 old
    | none=>none)=g1 o
  rw[h5 _ hm,phInv_of h2 hm]
 have hok:PlcOk g1 γ' (rho φ):=fun c=>by
  unfold rho
  cases hc:phOf φ c<;>grind[phOf_mem]
 have hob:∀ id o,hpOf ((φ.map fun p=>(p.2,obOf (rho φ) (hpOf L' p.1)))++N0 N) id=some o→(∃ old oo,(old,id)∈φ∧hpOf L' old=some oo∧o=renOb (rho φ) oo)∨(o.els=[]∧γ' id=some ⟨⟨0,0,none⟩,0,o.sz⟩):=fun id o ho=>by
  have:=qbl ho
  rcases List.mem_append.1 this with hm | hm
  ·left
   simp only[List.mem_map,Prod.mk.injEq]at hm
   obtain⟨p,hp,e1,e2⟩:=hm
   have h5:=h1 p hp
   cases hx:hpOf L' p.1 with
   | none=>grind
   | some oo =>
    rw[hx]at e2
    obtain⟨p1,p2⟩:=p
    subst e1
    exact⟨p1,oo,hp,hx,e2.symm⟩
  grind[hpOf_none_mem,hpOf_app_right,N0_els]
 refine⟨v,r2,_,Z',γ',rfl,hR,hp2 _ _ _ _ hγ (k3.ren hok),⟨fun id o ho=>?_,fun i j o1 o2 r1 r2 hne g1 g2 e1 e2=>?_,fun id o r ho hr=>?_,k4.zlt,k4.gl⟩,k5,k6,k7,fun id o r ho hr=>?_,fun id o ho=>by simp_all⟩
 ·rcases hob id o ho with⟨old,oo,hm,hoo,rfl⟩ | ⟨he,hg⟩
  ·obtain⟨r,hr,hor⟩:=k4.obj old oo hoo
   refine⟨r,(hmem hm).trans hr,hor.spot,hor.sz,by simpa [renOb]using hor.fit,fun e he=>?_,hor.live,fun e j he hj=>?_,hor.pln⟩
   ·simp only[renOb,List.length_map]at he
    have e1:(oo.els.map (renL (rho φ))).getD e []=renL (rho φ) (oo.els.getD e []):=by grind
    simp only[renOb,e1,qbi];exact hor.len e he
   ·simp only[renOb,List.length_map]at he hj
    obtain⟨v,hv,hr'⟩:=hor.cell e j he hj
    have e1:(oo.els.map (renL (rho φ))).getD e []=renL (rho φ) (oo.els.getD e []):=by grind
    refine⟨v,hv,?_⟩
    simp only[renOb,e1,renL_getD]
    exact hr'.ren hok
  ·obtain⟨sz,els⟩:=o
   subst he
   exact⟨_,hg,rfl,rfl,by simp,fun e he=>by grind,fun k hk=>by grind,fun e j he=>by grind,fun _ h2=>by grind⟩
 ·rcases hob i o1 g1 with⟨old1,oo1,hm1,hoo1,rfl⟩ | ⟨_,hg⟩
  ·rcases hob j o2 g2 with⟨old2,oo2,hm2,hoo2,rfl⟩ | ⟨_,hg⟩
   ·rw[hmem hm1]at e1
    rw[hmem hm2]at e2
    refine k4.dis old1 old2 oo1 oo2 r1 r2 (fun e=>?_) hoo1 hoo2 e1 e2
    grind[nodup_fst]
   ·rw[hg]at e2;injection e2 with e2;subst e2;exact .inr (.inl rfl)
  ·rw[hg]at e1;injection e1 with e1;subst e1;exact .inl rfl
 ·rcases hob id o ho with⟨old,oo,hm,hoo,rfl⟩ | ⟨_,hg⟩
  ·rw[hmem hm]at hr
   exact k4.zon old oo r hoo hr
  ·rw[hg]at hr;injection hr with hr;subst hr
   intro p hp
   obtain⟨_,_,h3,_⟩:=hp
   grind
 ·rcases hob id o ho with⟨old,oo,hm,hoo,rfl⟩ | ⟨_,hg⟩
  ·grind
  ·rw[hg]at hr;injection hr with hr;subst hr
   intro p hp
   obtain⟨_,_,h3,_⟩:=hp
   grind
end
end Go.Av

end
