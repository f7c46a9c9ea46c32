/- Lemmas for the proof, no statement of the seat; no conditions. -/
import Derived.Test.YtbdklnphnibfiaaDoorLayAH
set_option linter.unusedSimpArgs false
set_option linter.unusedVariables false
set_option linter.unnecessarySimpa false
set_option maxRecDepth 100000
section
namespace Go.Av
open Go.RowKit
section
variable {P:Program} {E:Env} {s:S} {Q:Exit→S→Prop} {K:S→Prop} {d:Option Nat}
theorem ACall.can {f:Nat} {args:List AV} {L:List (Nat×Ob)} {R R':AV→List (Nat×Ob)→Prop} (h:ACall P f args L R)
  (hr:∀ r L',R r L'→∃ φ:List (Nat×Nat),(∀ p∈φ,(hpOf L' p.1).isSome=true)∧(φ.map (·.2)).Nodup∧(∀ p∈φ,p.2∈L.map (·.1)→p.1=p.2)∧(φ.map (·.1)).Nodup∧R' (ren (rho φ) r) (φ.map fun p=>(p.2,obOf (rho φ) (hpOf L' p.1)))):ACall P f args L R':=by
 intro w Z γ vs hv hh hg
 refine(h w Z γ vs hv hh hg).mono ?_
 rintro e w' ⟨v,r,L',Z',g1,rfl,k2,k3,k4,k5,k6,k7,k8,k9⟩
 obtain⟨φ,h1,h2,h3,h4,hR⟩:=hr r L' k2
 let γ':Gm:=fun id=>if id∈L.map (·.1) then g1 id else match phInv φ id with
  | some old=>g1 old
  | none=>none
 have hmem:∀ {o n},(o,n)∈φ→γ' n=g1 o:=fun {o n} hm=>by
  show(if n∈L.map (·.1) then g1 n else match phInv φ n with | some old=>g1 old | none=>none)=g1 o
  split
  ·rename_i hin;have:=h3 _ hm hin;simp only at this;rw[this]
  ·rw[phInv_of h2 hm]
 have hok:PlcOk g1 γ' (rho φ):=fun c=>by
  unfold rho
  cases hc:phOf φ c with
  | none=>simp
  | some id =>
   simp only[Option.map_some]
   intro r hr
   rw[hmem (phOf_mem hc)];exact hr
 have hob:∀ id o,hpOf (φ.map fun p=>(p.2,obOf (rho φ) (hpOf L' p.1))) id=some o→∃ old oo,(old,id)∈φ∧hpOf L' old=some oo∧o=renOb (rho φ) oo:=fun id o ho=>by
  have:=qay ho
  simp only[List.mem_map,Prod.mk.injEq]at this
  obtain⟨p,hp,e1,e2⟩:=this
  have h5:=h1 p hp
  cases hx:hpOf L' p.1 with
  | none=>simp[hx]at h5
  | some oo =>
   rw[hx]at e2
   obtain⟨p1,p2⟩:=p
   subst e1
   exact⟨p1,oo,hp,hx,e2.symm⟩
 refine⟨v,_,_,Z',γ',rfl,hR,k3.ren hok,⟨fun id o ho=>?_,fun i j o1 o2 r1 r2 hne g1 g2 e1 e2=>?_,fun id o r ho hr=>?_,k4.zlt,k4.gl⟩,k5,k6,k7,fun id o r ho hr=>?_,fun id o ho=>?_⟩
 ·obtain⟨old,oo,hm,hoo,rfl⟩:=hob id o ho
  obtain⟨r,hr,hor⟩:=k4.obj old oo hoo
  refine⟨r,(hmem hm).trans hr,hor.spot,hor.sz,by simpa [renOb]using hor.fit,fun e he=>?_,hor.live,fun e j he hj=>?_,hor.pln⟩
  ·simp only[renOb,List.length_map]at he
   have e1:(oo.els.map (renL (rho φ))).getD e []=renL (rho φ) (oo.els.getD e []):=by simp[List.getD,he]
   simp only[renOb,e1,qar];exact hor.len e he
  ·simp only[renOb,List.length_map]at he hj
   obtain⟨v,hv,hr'⟩:=hor.cell e j he hj
   have e1:(oo.els.map (renL (rho φ))).getD e []=renL (rho φ) (oo.els.getD e []):=by simp[List.getD,he]
   refine⟨v,hv,?_⟩
   simp only[renOb,e1,qcd]
   exact hr'.ren hok
 ·obtain⟨old1,oo1,hm1,hoo1,rfl⟩:=hob i o1 g1
  obtain⟨old2,oo2,hm2,hoo2,rfl⟩:=hob j o2 g2
  rw[hmem hm1]at e1
  rw[hmem hm2]at e2
  refine k4.dis old1 old2 oo1 oo2 r1 r2 (fun e=>?_) hoo1 hoo2 e1 e2
  subst e
  apply hne
  exact nodup_fst h4 hm1 hm2
 ·obtain⟨old,oo,hm,hoo,rfl⟩:=hob id o ho
  rw[hmem hm]at hr
  exact k4.zon old oo r hoo hr
 ·obtain⟨old,oo,hm,hoo,rfl⟩:=hob id o ho
  rw[hmem hm]at hr
  exact k8 old oo r hoo hr
 ·show(if id∈L.map (·.1) then g1 id else match phInv φ id with | some old=>g1 old | none=>none)=_
  rw[if_pos (List.mem_map.2 ⟨_,qay ho,rfl⟩)];exact k9 id o ho
theorem hpOf_cons_ne {id i:Nat} {o x:Ob} {L:List (Nat×Ob)} (hid:id ∉ L.map (·.1)) (h:hpOf L i=some x):i≠id∧hpOf ((id,o)::L) i=some x:=by
 have hm:=qay h
 have:i≠id:=by rintro rfl;exact hid (List.mem_map.2 ⟨_,hm,rfl⟩)
 exact⟨this,by simp[this,h]⟩
theorem ACall.frz1 {f:Nat} {args:List AV} {R R':AV→List (Nat×Ob)→Prop} (h:ACall P f args [] R)
  (hr:∀ r L',R r L'→R' r L'∨∃ id o L2,L'=(id,o)::L2∧id ∉ L2.map (·.1)∧clR o.els=true∧(∀ x∈L2,clR x.2.els=true)∧R' (Av.frz id o r) L2):ACall P f args [] R':=by
 intro w Z γ vs hv hh hg
 refine(h w Z γ vs hv hh hg).mono ?_
 rintro e w' ⟨v,r,L',Z',γ',h1,h2,h3,h4,h5,h6,h7,h8,h9⟩
 rcases hr r L' h2 with hk | ⟨id,o,L2,rfl,hid,hcl,hcl2,hR⟩
 ·exact⟨v,r,L',Z',γ',h1,hk,h3,h4,h5,h6,h7,h8,h9⟩
 obtain⟨rg,hrg,hor⟩:=h4.obj id o (by simp)
 have hup:∀ {i x},hpOf L2 i=some x→i≠id∧hpOf ((id,o)::L2) i=some x:=fun h=>hpOf_cons_ne hid h
 refine⟨v,Av.frz id o r,L2,fun p=>Z' p∨rg.has p,γ',h1,hR,h3.frz hrg hor hcl,⟨fun i x hx=>?_,fun i j o1 o2 r1 r2 hne g1 g2=>?_,fun i x r' hx hr' p hp=>?_,fun p hp=>?_,h4.gl.world (fun _ h=>.inl h) (fun _ _=>rfl)⟩,h5,fun p hp=>.inl (h6 p hp),fun p hp=>?_,fun i x r' hx=>?_,h9⟩
 ·obtain⟨hi,hx'⟩:=hup hx
  obtain⟨r',hr',hor'⟩:=h4.obj i x hx'
  refine⟨r',hr',hor'.spot,hor'.sz,hor'.fit,hor'.len,hor'.live,fun e j he hj=>?_,hor'.pln⟩
  obtain⟨u,hu,hru⟩:=hor'.cell e j he hj
  exact⟨u,hu,hru.world (fun b hb=>.inl hb) (fun p _=>rfl)⟩
 ·exact h4.dis i j o1 o2 r1 r2 hne (hup g1).2 (hup g2).2
 ·obtain⟨hi,hx'⟩:=hup hx
  rintro(hz | hz)
  ·exact h4.zon i x r' hx' hr' p hp hz
  ·exact Rg.apart_has (h4.dis i id x o r' rg hi hx' (by simp) hr' hrg) hp hz
 ·rcases hp with hp | hp
  ·exact h4.zlt p hp
  ·obtain⟨p1,p2,p3,p4⟩:=hp
   obtain⟨⟨u,hu⟩,_⟩:=hor.live (p.off-rg.A.off) (by omega)
   have:=World.block_lt_of_cell? w' _ hu
   simp only[at_block]at this
   omega
 ·rcases hp with hp | hp
  ·exact h7 p hp
  ·rcases h8 id o rg (by simp) hrg p hp with h | ⟨i,x,r',hx,_⟩
   ·exact .inr h
   ·simp at hx
 ·exact h8 i x r' (hup hx).2
def frzAll:List (Nat×Ob)→AV→AV
 | [],r=>r
 | (id,o)::L,r=>frzAll L (Av.frz id o r)
theorem ACall.frzs {f:Nat} {args:List AV} {R:AV→List (Nat×Ob)→Prop} {R':AV→Prop} (h:ACall P f args [] R)
  (hr:∀ r L',R r L'→L'.length≤20∧(L'.map (·.1)).Nodup∧(∀ x∈L',clR x.2.els=true)∧∃ v,impA (frzAll L' r) v∧R' v):ACall P f args [] (fun r L'=>R' r∧L'=[]):=by
 have key:∀ (n:Nat) (R:AV→List (Nat×Ob)→Prop),ACall P f args [] R →
   (∀ r L',R r L'→L'.length≤n∧(L'.map (·.1)).Nodup∧(∀ x∈L',clR x.2.els=true)∧∃ v,impA (frzAll L' r) v∧R' v)→ACall P f args [] (fun r L'=>R' r∧L'=[]):=by
  intro n
  induction n with
  | zero =>
   intro R h hr
   refine h.imp fun r L' hR=>?_
   obtain⟨hl,_,_,v,hi,hv⟩:=hr r L' hR
   have:L'=[]:=List.eq_nil_of_length_eq_zero (by omega)
   subst this
   exact⟨v,hi,hv,rfl⟩
  | succ n ih =>
   intro R h hr
   refine ih (fun r L'=>L'.length≤n∧(L'.map (·.1)).Nodup∧(∀ x∈L',clR x.2.els=true)∧∃ v,impA (frzAll L' r) v∧R' v) (h.frz1 fun r L' hR=>?_) fun r L' h=>h
   obtain⟨hl,hn,hc,v,hi,hv⟩:=hr r L' hR
   cases L' with
   | nil=>exact .inl ⟨by simp,hn,hc,v,hi,hv⟩
   | cons x L2 =>
    obtain⟨id,o⟩:=x
    simp only[List.map_cons,List.nodup_cons,List.mem_cons,List.length_cons]at hn hc hl
    exact .inr ⟨id,o,L2,rfl,hn.1,hc _ (.inl rfl),fun x hx=>hc x (.inr hx),by omega,hn.2,fun x hx=>hc x (.inr hx),v,hi,hv⟩
 exact key 20 R h hr
theorem CV.of_frz {f:Nat} {args:List AV} {v:AV} {R:AV→List (Nat×Ob)→Prop} (h:ACall P f args [] R)
  (hr:∀ r L',R r L'→L'.length≤20∧(L'.map (·.1)).Nodup∧(∀ x∈L',clR x.2.els=true)∧impA (frzAll L' r) v) (he:qcf P f=true:=by kernel_rfl) (hca:clL args=true:=by simp) (hcv:clA v=true:=by simp):CV P f args v :=
 ⟨he,hca,hcv,ACall.frzs (R':=fun r=>r=v) h fun r L' hR=>by
  obtain⟨h1,h2,h3,h4⟩:=hr r L' hR
  exact⟨h1,h2,h3,v,h4,rfl⟩⟩
theorem CV.view {f:Nat} {args argsC:List AV} {v:AV} (h:CV P f argsC v) (h1:mtL s.h [] (plOf []) argsC args) (hK:K ⟨putA s.t d v,s.h,s.u⟩) (hn:noA v=true:=by simp):callA P f args d s K:=qcc h.en h.c h1 hn h.cv hK
structure CW (P:Program) (f:Nat) (args:List AV) (o:Ob) (v:AV):Prop where
 en:qcf P f=true
 cv:clA v=true
 co:clR o.els=true
 c:ACall P f args [(1000,o)] (fun r L'=>r=v∧L'=[(1000,o)])
theorem renOb_cl {ρ:Nat→Option Plc} {o:Ob} (h:clR o.els=true):renOb ρ o=o:=by
 unfold renOb
 have:o.els.map (renL ρ)=o.els:=by
  conv=>rhs;rw[← List.map_id o.els]
  refine List.map_congr_left fun r hr=>?_
  exact renL_closed.renL_closedL ρ r (List.all_eq_true.1 h r hr)
 rw[this]
theorem CW.call {f:Nat} {args args':List AV} {o:Ob} {v:AV} (h:CW P f args o v) (id:Nat) (hid:s.h id=some o) (hm:mtL (fun _=>none) [id] (plOf [(1000,.whole id)]) args args') (hK:K ⟨putA s.t d v,s.h,s.u⟩):callA P f args' d s K:=by
 refine qad [(1000,.whole id)] h.en h.c hm (by simp) ⟨⟨o,hid,rfl,qac rfl h.co⟩,trivial⟩ (by simp) (by simp[hid]) ?_
 rintro r L' ⟨rfl,rfl⟩
 refine⟨[],⟨by simp,by simp,by simp,by simp,by simp⟩,?_⟩
 have e1:qaf s [(1000,.whole id)] [] d r [(1000,o)]=⟨putA s.t d r,s.h,s.u⟩:=by
  simp only[qaf,putH,putH1,ren2,plOf,if_true,remH,List.map_nil,Us.app_nil,renL_closed _ _ h.cv,renOb_cl h.co]
  congr 1
  funext i
  simp only[upd]
  split
  ·rename_i hi;rw[hi,hid]
  ·rfl
 rw[e1];exact hK
def hdO (ins live:List Nat) (s:S) (up:List (Nat×AV)) (hp:List (Nat×Ob)):S :=
 ⟨mkT (live.map fun i=>(i,(getU up i).getD (s.t i))),hpOf hp,Us.of (ins++hp.map (·.1))⟩
attribute [simp] hdO
theorem ev_lo {a:ACode} {X:Type} (live:List Nat) (φ:List (Nat×Nat)) (up:X→List (Nat×AV)) (hp:X→List (Nat×Ob)) (meas:X→Nat) (good:X→Prop) (x0:X)
  (hg:good x0) (round:∀ x,good x→ev P E a (thenQ (nextX E live (fun x=>hdO E.ins live s (up x) (hp x)) meas good x) Q) (hdO E.ins live s (up x) (hp x)))
  (h0:qae E φ s:=by simp) (he:canon E.ins live φ s=hdO E.ins live s (up x0) (hp x0):=by simp):ev P E (.loop a) Q s :=
 qba live (fun x=>hdO E.ins live s (up x) (hp x)) meas good x0 ⟨hg,φ,h0,he⟩ round
theorem ev_sw {a:ACode} {s':S} (hw:SW E s s') (h:ev P E (.loop a) Q s'):ev P E (.loop a) Q s:=va_pre hw h
end
end Go.Av
end
