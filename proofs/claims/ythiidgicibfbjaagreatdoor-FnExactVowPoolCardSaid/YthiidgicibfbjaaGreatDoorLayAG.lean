/- Lemmas for the proof, no statement of the seat; no conditions. -/
import Derived.Test.YthiidgicibfbjaaGreatDoorLayAF
set_option linter.unusedSimpArgs false
set_option linter.unusedVariables false
set_option linter.unnecessarySimpa false
set_option maxRecDepth 100000
set_option maxHeartbeats 400000
section
namespace Go.Av
open Go.RowKit
section
variable {P:Program} {E:Env} {s:S}
theorem qkf (k sz:Nat) (hk:s.t k=.nils) (hu:k ∉ s.u):SW E s ⟨upd s.t k (.sl k 0 0),upd s.h k (some ⟨sz,[]⟩),Us.cons k s.u⟩:=fun cx Z γ a w hn hin hs=>by
 have h1:=hs.tmp k;rw[hk]at h1;have hv:a.tmps.getD k undef=.slice none 0 0:=by
  generalize a.tmps.getD k undef=v at h1;cases h1;rfl
 have hkn:k<a.tmps.size:=by
  apply qHI;intro h;rw[qF1,qG0 (by omega)]at hv;simp[undef]at hv
 have h2:=hs.phantom (d:=k) (sz:=sz) (by rw[← hs.siz];exact hkn) hu (u:=.slice none 0 0) none rfl;have ha:a.put (some k) (.slice none 0 0)=a:=by
  have h3:a.tmps.setIfInBounds k (.slice none 0 0)=a.tmps:=by
   apply qFP;intro i;rw[qGm];split
   ·rename_i h;subst h;rw[qF1,qHJ hkn]at hv;rw[qHJ hkn];simp at hv;rw[hv]
   ·rfl
  simp only[Act.put];obtain⟨tm,df⟩:=a
  simp_all
 rw[ha]at h2;exact⟨Z,_,h2⟩
end
end Go.Av
end
section
namespace Go.Av
open Go.RowKit
section
variable {P:Program} {E:Env} {s:S} {Q:Exit→S→Prop}
theorem qdw (k j:Nat) {sz:Nat} {row:List AV} {b:AV} (hk:s.h k=some ⟨sz,[row]⟩) (hj:j<row.length) (hi:qgF (row.getD j .top) b):SW E s ⟨s.t,upd s.h k (some ⟨sz,[row.set j b]⟩),s.u⟩:=fun cx Z γ ac w hn hin hs=>by
 have key:∀ i x,upd s.h k (some (⟨sz,[row.set j b]⟩:Ob)) i=some x→(i=k∧x=⟨sz,[row.set j b]⟩)∨(i≠k∧s.h i=some x):=fun i x hx=>by
  by_cases h2:i=k
  ·subst h2;rw[qat]at hx;injection hx with hx;exact .inl ⟨rfl,hx.symm⟩
  ·rw[qay _ _ h2]at hx;exact .inr ⟨h2,hx⟩
 have hex:∀ i x,upd s.h k (some (⟨sz,[row.set j b]⟩:Ob)) i=some x→∃ y,s.h i=some y:=fun i x hx=>by
  rcases key i x hx with⟨rfl,_⟩ | ⟨_,h⟩
  ·exact⟨_,hk⟩
  ·exact⟨_,h⟩
 refine⟨Z,γ,hs.tmp,hs.siz,hs.dfr,⟨fun i x hx=>?_,fun i i2 o1 o2 r1 r2 hne g1 g2 e1 e2=>?_,fun i x r hx hr=>?_,hs.hp.zlt,hs.hp.gl⟩,hs.fr,fun i x r hx hr=>?_,hs.z0,hs.z1,hs.scp,hs.in0,hs.inp⟩
 ·rcases key i x hx with⟨rfl,rfl⟩ | ⟨_,h⟩
  ·obtain⟨r0,hr0,hor0⟩:=hs.hp.obj _ _ hk;refine⟨r0,hr0,hor0.spot,hor0.sz,hor0.fit,fun e he=>?_,hor0.live,fun e j2 he hj2=>?_,hor0.pln⟩
   ·have h0:e=0:=by simpa using he
    subst h0;have:=hor0.len 0 (by simp);simpa using this
   ·have h0:e=0:=by simpa using he
    subst h0;obtain⟨u,hu,hru⟩:=hor0.cell 0 j2 (by simp) hj2;refine⟨u,hu,?_⟩;show AVRel w Z γ ((row.set j b).getD j2 .top) u;by_cases hjj:j2=j
    ·subst hjj;rw[qGo,qHK hj];exact hi _ _ _ _ hru
    ·rw[qGo,qGQ (qFL hjj),← List.getD_eq_getElem?_getD];exact hru
  ·exact hs.hp.obj i x h
 ·obtain⟨y1,h1⟩:=hex _ _ g1;obtain⟨y2,h2⟩:=hex _ _ g2;exact hs.hp.dis i i2 y1 y2 r1 r2 hne h1 h2 e1 e2
 ·obtain⟨y,h⟩:=hex _ _ hx;exact hs.hp.zon i y r h hr
 ·obtain⟨y,h⟩:=hex _ _ hx;exact hs.own i y r h hr
end
end Go.Av
end
