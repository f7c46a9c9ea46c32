/- Lemmas for the proof, no statement of the seat; no conditions. -/
import Derived.Test.YthgigdhkcffloaaGreatDoorLayAB
import Derived.Lib.AppendZerosOnto
set_option linter.unusedSimpArgs false
set_option linter.unusedVariables false
set_option linter.unnecessarySimpa false
set_option maxRecDepth 100000
section
namespace Go.Av
open Go.RowKit
section
variable {P:Program} {w w':World} {Z:Addr→Prop} {γ:Gm} {h:Hp} {c:Cx} {s:S} {a:Act}
theorem HRel.shift (hh:HRel w Z γ h) {id d e:Nat} {o:Ob} {r:Rg} (hid:h id=some o) (hr:γ id=some r) (hg:γ d=none) (he:e≤o.els.length) :
  HRel w Z (upd γ d (some ⟨r.A.at (e * o.sz),r.n-e * o.sz,o.sz⟩)) (upd (upd h id none) d (some ⟨o.sz,o.els.drop e⟩)):=by
 have hgm:∀ i s,γ i=some s→upd γ d (some ⟨r.A.at (e * o.sz),r.n-e * o.sz,o.sz⟩) i=some s:=by
  grind[qam]
 obtain⟨r1,hr1,hor⟩:=hh.obj id o hid
 rw[hr]at hr1;injection hr1 with hr1;subst hr1
 have hle:e * o.sz≤r.n:=Nat.le_trans (Nat.mul_le_mul_right _ he) hor.fit
 have hap:∀ i oo s,i≠d→upd (upd h id none) d (some ⟨o.sz,o.els.drop e⟩) i=some oo→upd γ d (some ⟨r.A.at (e * o.sz),r.n-e * o.sz,o.sz⟩) i=some s→(⟨r.A.at (e * o.sz),r.n-e * o.sz,o.sz⟩:Rg).apart s∧h i=some oo∧γ i=some s:=by
  intro i oo s hi ho hs
  rw[qam _ _ hi]at ho hs
  by_cases hii:i=id
  ·grind[qaj]
  ·rw[qam _ _ hii]at ho
   refine⟨?_,ho,hs⟩
   have:=hh.dis id i o oo r s (Ne.symm hii) hid ho hr hs
   grind[Rg.apart,Addr.at]
 refine⟨fun i oo ho=>?_,fun i j o1 o2 s1 s2 hne h1 h2 g1 g2=>?_,fun i oo s ho hs p hp=>?_,hh.zlt,hh.gl⟩
 ·by_cases hi:i=d
  ·subst hi
   rw[qaj]at ho ⊢
   injection ho with ho;subst ho
   refine⟨_,rfl,rfl,rfl,?_,fun k hk=>?_,fun k hk=>?_,fun k j hk hj=>?_,fun h1 h2 k=>hor.pln h1 (by grind) k⟩
   ·simp only[List.length_drop]
    have:=hor.fit
    grind[Nat.sub_mul]
   ·simp only[List.length_drop]at hk
    have:=hor.len (e+k) (by omega)
    grind
   ·have:=hor.live (e * o.sz+k) (by grind)
    grind[qai]
   ·simp only[List.length_drop]at hk
    obtain⟨v,hv,hrv⟩:=hor.cell (e+k) j (by omega) hj
    refine⟨v,?_,?_⟩
    ·grind[qai]
    ·have e1:((o.els.drop e).getD k [])=o.els.getD (e+k) []:=by simp
     simp only[e1]
     exact hrv.gmono hgm
  ·rw[qam _ _ hi]at ho
   have hii:i≠id:=by grind[qaj]
   rw[qam _ _ hii]at ho
   obtain⟨s,hs,hos⟩:=hh.obj i oo ho
   exact⟨s,hgm _ _ hs,hos.spot,hos.sz,hos.fit,hos.len,hos.live,fun k j hk hj=>by
    obtain⟨v,hv,hrv⟩:=hos.cell k j hk hj
    exact⟨v,hv,hrv.gmono hgm⟩,hos.pln⟩
 ·by_cases hi:i=d
  ·grind[qaj]
  ·by_cases hj:j=d
   ·grind[qaj,Rg.apart_comm]
   ·obtain⟨_,a1,a2⟩:=hap i o1 s1 hi h1 g1
    obtain⟨_,b1,b2⟩:=hap j o2 s2 hj h2 g2
    exact hh.dis i j o1 o2 s1 s2 hne a1 b1 a2 b2
 ·by_cases hi:i=d
  ·subst hi
   rw[qaj]at hs
   injection hs with hs;subst hs
   refine hh.zon id o r hid hr p ?_
   obtain⟨p1,p2,p3,p4⟩:=hp
   simp only[Addr.at]at p1 p2 p3
   exact⟨p1,by omega,by omega,p4⟩
  ·obtain⟨_,a1,a2⟩:=hap i oo s hi ho hs
   exact hh.zon i oo s a1 a2 p hp
theorem HRel.drop (hh:HRel w Z γ h) (id:Nat):HRel w Z γ (upd h id none):=by
 have key:∀ i o,upd h id none i=some o→h i=some o:=fun i o ho=>by
  grind[qaj,qam]
 exact⟨fun i o ho=>hh.obj i o (key i o ho),fun i j o1 o2 s1 s2 hne h1 h2=>hh.dis i j o1 o2 s1 s2 hne (key _ _ h1) (key _ _ h2),fun i o r ho=>hh.zon i o r (key _ _ ho),hh.zlt,hh.gl⟩
theorem SRel.drop (hs:SRel c s Z γ a w) (id:Nat):SRel c ⟨s.t,upd s.h id none,s.u⟩ Z γ a w:=by
 refine⟨hs.tmp,hs.siz,hs.dfr,hs.hp.drop id,hs.fr,fun i o r ho=>?_,hs.z0,hs.z1,hs.scp,hs.in0,hs.inp⟩
 simp only at ho
 by_cases hi:i=id
 ·grind[qaj]
 ·rw[qam _ _ hi]at ho;exact hs.own i o r ho
def qba (h:Hp):AV→Option (Prop×Nat×List (List AV))
 | .lst sz els=>some (True,sz,els)
 | .sl id e len=>match h id with
  | some o=>some (e+len≤o.els.length,o.sz,(o.els.drop e).take len)
  | none=>none
 | .slc id e len _=>match h id with
  | some o=>some (e+len≤o.els.length,o.sz,(o.els.drop e).take len)
  | none=>none
 | _=>none
theorem qbc (hh:HRel w Z γ h) {x:AV} {xv:Value} (hx:AVRel w Z γ x xv) {p:Prop} {sz:Nat} {els:List (List AV)} (he:qba h x=some (p,sz,els)) (hp:p) :
  ∃ cells,(Builtin.firstCells sz els.length xv).run P w=.ok cells w∧RRel w Z γ sz els cells∧(Builtin.lenOf xv).run P w=.ok els.length w:=by
 have fin:∀ (A:Addr) (cap:Nat),A.spot=none→(∀ k,k<els.length→(els.getD k []).length=sz)→(∀ k j,k<els.length→j<sz→∃ v,w.cell? (A.at (k * sz+j))=some v∧AVRel w Z γ ((els.getD k []).getD j .top) v) →
   ∃ cells,(Builtin.firstCells sz els.length (.slice (some A) els.length cap)).run P w=.ok cells w∧RRel w Z γ sz els cells∧(Builtin.lenOf (.slice (some A) els.length cap)).run P w=.ok els.length w:=by
  intro A cap hA hl hc
  have hex:∀ i,∃ v,i<els.length * sz→w.cell? (A.at i)=some v∧AVRel w Z γ ((els.getD (i / sz) []).getD (i % sz) .top) v:=fun i=>by
   by_cases hi:i<els.length * sz
   ·grind[Nat.div_lt_iff_lt_mul,Nat.mod_lt,Nat.div_add_mod]
   ·exact⟨undef,fun h=>absurd h hi⟩
  let f:=fun i=>Classical.choose (hex i)
  have hf:∀ i,i<els.length * sz→w.cell? (A.at i)=some (f i)∧AVRel w Z γ ((els.getD (i / sz) []).getD (i % sz) .top) (f i):=fun i hi=>Classical.choose_spec (hex i) hi
  refine⟨((List.range (els.length * sz)).map f).toArray,?_,⟨by simp,hl,fun k j hk hj=>?_⟩,rfl⟩
  ·grind[Builtin.firstCells,run_loadCells,add_of_spot]
  ·have hlt:k * sz+j<els.length * sz:=row_lt hk hj (Nat.le_refl _)
   have hsz:0<sz:=by omega
   have h1:=(hf _ hlt).2
   have h2:(k * sz+j) / sz=k:=by grind[Nat.mul_comm,Nat.mul_add_div,Nat.div_eq_of_lt]
   have h3:(k * sz+j) % sz=j:=by rw[Nat.mul_comm,Nat.mul_add_mod];exact Nat.mod_eq_of_lt hj
   simp_all
 have nil:∀ (A:Option Addr) (cap:Nat),els=[]→∃ cells,(Builtin.firstCells sz els.length (.slice A 0 cap)).run P w=.ok cells w∧RRel w Z γ sz els cells∧(Builtin.lenOf (.slice A 0 cap)).run P w=.ok els.length w:=by
  rintro A cap rfl
  refine⟨#[],?_,⟨by simp,fun k hk=>by grind,fun k j hk=>by grind⟩,rfl⟩
  cases A <;> simp[Builtin.firstCells,loadCells,loadCellsFrom]
 cases hx with
 | lst γ sz' els' A cap vf hl hc hs hr =>
  simp only[qba,Option.some.injEq,Prod.mk.injEq]at he
  obtain⟨rfl,rfl,rfl⟩:=he
  by_cases hn:els'=[]
  ·simp_all
  ·obtain⟨A',rfl,hz,hA,hcell⟩:=hc hn
   exact fin A' cap hA hs (fun k j hk hj=>⟨_,hcell k j hk hj,(hr k j hk hj).ofClosed⟩)
 | sl γ id e len cap r hg hl hc =>
  simp only[qba]at he
  split at he
  ·rename_i o ho
   obtain⟨rfl,rfl,rfl⟩:=he
   obtain⟨r',hr',hor⟩:=hh.obj id o ho
   rw[hg]at hr';injection hr' with hr';subst hr'
   have hlen:((o.els.drop e).take len).length=len:=by grind
   have hget:∀ k,k<len→((o.els.drop e).take len).getD k []=o.els.getD (e+k) []:=fun k hk=>by grind
   have:=fin (r.A.at (e * r.sz)) cap rfl (fun k hk=>by rw[hlen]at hk;rw[hget k hk];exact hor.len _ (by omega)) (fun k j hk hj=>by
    rw[hlen]at hk
    obtain⟨v,hv,hr⟩:=hor.cell (e+k) j (by omega) hj
    refine⟨v,?_,by grind⟩
    rw[qai,← hv,hor.sz];grind)
   grind
  grind
 | sl0 γ id e A =>
  simp only[qba]at he
  split at he
  all_goals simp_all
 | slc γ id e len cap r hg hl hc =>
  simp only[qba]at he
  split at he
  ·rename_i o ho
   obtain⟨rfl,rfl,rfl⟩:=he
   obtain⟨r',hr',hor⟩:=hh.obj id o ho
   rw[hg]at hr';injection hr' with hr';subst hr'
   have hlen:((o.els.drop e).take len).length=len:=by grind
   have hget:∀ k,k<len→((o.els.drop e).take len).getD k []=o.els.getD (e+k) []:=fun k hk=>by grind
   have:=fin (r.A.at (e * r.sz)) cap rfl (fun k hk=>by rw[hlen]at hk;rw[hget k hk];exact hor.len _ (by omega)) (fun k j hk hj=>by
    rw[hlen]at hk
    obtain⟨v,hv,hr⟩:=hor.cell (e+k) j (by omega) hj
    refine⟨v,?_,by grind⟩
    rw[qai,← hv,hor.sz];grind)
   grind
  grind
 | slc0 γ id e A =>
  simp only[qba]at he
  split at he
  all_goals simp_all
 | _=>grind[qba]
theorem growBy_le (need:Nat):∀ (k c:Nat),c≤2 * need+200→Builtin.growBy need k c≤3 * need+1000
 | 0,c,h=>by grind[Builtin.growBy]
 | k+1,c,h=>by
  unfold Builtin.growBy
  split
  ·omega
  ·exact growBy_le need k _ (by omega)
theorem nextcap_le {need cap:Nat} (h:cap<need):Builtin.nextslicecap need cap≤3 * need+1000:=by
 grind[Builtin.nextslicecap,growBy_le]
def evAppend (P:Program) (s:S) (d ty xt:Nat) (x y:AV):Option (Prop×S) :=
 match ttOf P ty,ttOf P xt with
 | some ⟨.slc e,_,_,_⟩,some ⟨.slc _,_,_,_⟩=>match ttOf P e,qba s.h y with
  | some ie,some (q,sz,ys)=>match x with
   | .nils=>some (d ∉ s.u∧0<ie.size∧ie.zero.length=ie.size∧q∧sz=ie.size∧1≤ie.bytes∧ys.length * ie.bytes≤1099511627776∧ie.bytes≤1048576,evNew d s ie.size ys (.sl d 0 ys.length))
   | .sl id e0 len=>match s.h id with
    | some o=>some (d ∉ s.u∧0<ie.size∧ie.zero.length=ie.size∧q∧sz=ie.size∧o.sz=ie.size∧e0+len≤o.els.length∧1≤ie.bytes∧(len+ys.length) * ie.bytes≤1099511627776∧ie.bytes≤1048576∧ys.all (fun r=>r.all oneA)=true,
      ⟨upd s.t d (.sl d 0 (len+ys.length)),upd (upd s.h id none) d (some ⟨ie.size,(o.els.drop e0).take len++ys⟩),Us.cons d s.u⟩)
    | none=>none
   | _=>none
  | _,_=>none
 | _,_=>none
theorem SRel.phantom (hs:SRel c s Z γ a w) {d sz:Nat} (hd:d<c.n) (hu:d ∉ s.u) {u:Value} (A:Option Addr) (hu2:u=.slice A 0 0) :
  SRel c (evNew d s sz [] (.sl d 0 0)) Z (upd γ d (some ⟨⟨0,0,none⟩,0,sz⟩)) (a.put (some d) u) w:=by
 have hg:γ d=none:=by
  cases hgd:γ d with
  | none=>rfl
  | some r=>exact absurd (hs.scp d r hgd) hu
 have hgm:∀ i s,γ i=some s→upd γ d (some ⟨⟨0,0,none⟩,0,sz⟩) i=some s:=by
  grind[qam]
 have ht1:TRel w Z (upd γ d (some ⟨⟨0,0,none⟩,0,sz⟩)) s.t a:=fun i=>(hs.tmp i).gmono hgm
 have key:∀ i o r,i≠d→upd s.h d (some ⟨sz,[]⟩) i=some o→upd γ d (some ⟨⟨0,0,none⟩,0,sz⟩) i=some r→s.h i=some o∧γ i=some r:=fun i o r hi ho hr=>by
  grind[qam]
 refine⟨ht1.put (by rw[hs.siz];omega) (by rw[hu2];exact .sl0 _ _ _ _),by simp[Act.put,hs.siz],hs.dfr,⟨fun i o ho=>?_,fun i j o1 o2 s1 s2 hne h1 h2 g1 g2=>?_,fun i o r ho hr p hp=>?_,hs.hp.zlt,hs.hp.gl⟩,hs.fr,fun i o r ho hr p hp=>?_,hs.z0,hs.z1,fun i r hr=>?_,hs.in0,hs.inp_u hu⟩
 ·simp only[evNew]at ho
  by_cases hi:i=d
  ·subst hi
   rw[qaj]at ho ⊢
   injection ho with ho;subst ho
   exact⟨_,rfl,rfl,rfl,by simp,fun e he=>by grind,fun k hk=>by grind,fun e j he=>by grind,fun _ h2=>by grind⟩
  ·rw[qam _ _ hi]at ho
   obtain⟨r,hr,hor⟩:=hs.hp.obj i o ho
   exact⟨r,hgm _ _ hr,hor.spot,hor.sz,hor.fit,hor.len,hor.live,fun k j hk hj=>by
    obtain⟨v,hv,hrv⟩:=hor.cell k j hk hj
    exact⟨v,hv,hrv.gmono hgm⟩,hor.pln⟩
 ·by_cases hi:i=d
  ·subst hi
   rw[qaj]at g1
   injection g1 with g1;subst g1
   exact .inl rfl
  ·by_cases hj:j=d
   ·subst hj
    rw[qaj]at g2
    injection g2 with g2;subst g2
    exact .inr (.inl rfl)
   ·obtain⟨a1,a2⟩:=key i o1 s1 hi h1 g1
    obtain⟨b1,b2⟩:=key j o2 s2 hj h2 g2
    exact hs.hp.dis i j o1 o2 s1 s2 hne a1 b1 a2 b2
 ·by_cases hi:i=d
  ·subst hi
   rw[qaj]at hr
   injection hr with hr;subst hr
   obtain⟨_,h2,h3,_⟩:=hp
   grind
  ·obtain⟨a1,a2⟩:=key i o r hi ho hr
   exact hs.hp.zon i o r a1 a2 p hp
 ·by_cases hi:i=d
  ·subst hi
   rw[qaj]at hr
   injection hr with hr;subst hr
   obtain⟨_,_,h3,_⟩:=hp
   grind
  ·obtain⟨a1,a2⟩:=key i o r hi ho hr
   exact hs.own i o r a1 a2 p hp
 ·by_cases hi:i=d
  ·subst hi;exact .inl rfl
  ·rw[qam _ _ hi]at hr
   exact Or.inr (hs.scp i r hr)
theorem append_grows {ty e xt rt:Nat} {ie:TI} {f:TypeInfo} {z:Value} (hty:P.underlying ty=some (.slice e)) (hie:ttOf P e=some ie) (hf:P.info? e=some f) (hfb:f.bytes=ie.bytes) (hfs:f.size=ie.size) (hz:f.zero=some z) (hzl:z.cells.size=ie.size) (hnx:∀ k,P.underlying xt≠some (.int k))
  {dx:TypeDesc} (hxt:P.underlying xt=some dx) {base:Option Addr} {sl sc m:Nat} {yv:Value} {old new:Array Value} (hm:(Builtin.lenOf yv).run P w=.ok m w) (hgt:sc<sl+m) (hbig:(sl+m) * ie.bytes≤1099511627776) (hb2:ie.bytes≤1048576) (hb1:1≤ie.bytes)
  (hold:(Builtin.firstCells ie.size sl (.slice base sl sc)).run P w.drew=.ok old w.drew) (hnew:(Builtin.firstCells ie.size m yv).run P w.drew=.ok new w.drew) (hos:old.size=sl * ie.size) (hns:new.size=m * ie.size) :
  ∃ cap rest,sl+m≤cap∧(old++new++rest).size=cap * ie.size ∧
   (Builtin.append_ #[ty,xt] rt #[.slice base sl sc,yv]).run P w=.ok (.slice (some ⟨w.heap.size,0,none⟩) (sl+m) cap) (w.drew.alloc (.cells (old++new++rest) e)):=by
 have hcap:¬ (((Builtin.nextslicecap (sl+m) sc * ie.bytes:Nat):Int) > 2 ^ 48):=by
  have h1:=nextcap_le hgt
  have h2:Builtin.nextslicecap (sl+m) sc * ie.bytes≤(3 * (sl+m)+1000) * ie.bytes:=Nat.mul_le_mul_right _ h1
  grind
 refine⟨(Question.appendCap (sl+m) sc e).cut (w.tape w.drawn (.appendCap (sl+m) sc e)),Builtin.zeroCells z.cells ((Question.appendCap (sl+m) sc e).cut (w.tape w.drawn (.appendCap (sl+m) sc e))-(sl+m)),?_,?_,?_⟩
 ·simp[Question.cut]
 ·grind[Question.cut,Builtin.zeroCells,Nat.add_mul]
 ·have hn1:¬ (sl+m≤sc):=by omega
  have hle:sl+m≤(sl+m) * ie.bytes:=Nat.le_mul_of_pos_right _ hb1
  have hn2:¬ (((sl+m:Nat):Int) > IntKind.i64.max∧(false=true∨f.bytes=0)):=by
   grind
  have hn3:¬ (Builtin.nextslicecap (sl+m) sc * f.bytes > 2 ^ 48):=by grind
  cases dx
  case int k=>grind
  all_goals
   have hn2':¬ (((sl+m:Nat):Int) > IntKind.i64.max∧(False∨f.bytes=0)):=by
    grind
   simp only[Builtin.append_,List.getElem?_toArray,List.getElem?_cons_zero,List.getElem?_cons_succ,Sem.run_bind,qaa hty,qaa hxt,Result.andThen_ok,qas hie,Sem.run_pure,Bool.false_eq_true,if_false,hm,if_neg hn1,run_typeInfo hf,if_neg hn2',if_neg hn3,run_choose,Question.forced,World.drew_eq,run_askRoom,hold,Bool.not_false,if_true,hnew,run_zero hf hz,newRow,run_newObj,World.alloc_eq,World.size_drew]
theorem SRel.drew (hs:SRel c s Z γ a w):SRel c s Z γ a w.drew:=by
 refine⟨hs.tmp.same hs.hp.zlt (fun _ _=>rfl),hs.siz,hs.dfr,hs.hp.same (fun _ _=>⟨rfl,rfl⟩) (Nat.le_refl _),?_,hs.own,hs.z0,hs.z1,hs.scp,hs.in0,hs.inp⟩
 exact hs.fr.trans (G:=Foot c.γ0 c.h0) ⟨rfl,rfl,rfl,Nat.le_refl _,fun _ _=>.inl rfl⟩ (fun _ _ h=>h) (fun _ _ _ h=>h)
theorem SRel.shift (hs:SRel c s Z γ a w) {id d e len cap:Nat} {o:Ob} {r:Rg} (hid:s.h id=some o) (hr:γ id=some r) (hd:d<c.n) (hu:d ∉ s.u) (he:e≤o.els.length) (hl:len≤cap) (hc:(e+cap) * o.sz≤r.n) :
  SRel c ⟨upd s.t d (.sl d 0 len),upd (upd s.h id none) d (some ⟨o.sz,o.els.drop e⟩),Us.cons d s.u⟩ Z (upd γ d (some ⟨r.A.at (e * o.sz),r.n-e * o.sz,o.sz⟩)) (a.put (some d) (.slice (some (r.A.at (e * o.sz))) len cap)) w:=by
 have hg:γ d=none:=by
  cases hgd:γ d with
  | none=>rfl
  | some r=>exact absurd (hs.scp d r hgd) hu
 have hgm:∀ i s,γ i=some s→upd γ d (some ⟨r.A.at (e * o.sz),r.n-e * o.sz,o.sz⟩) i=some s:=by
  grind[qam]
 have ht1:TRel w Z (upd γ d (some ⟨r.A.at (e * o.sz),r.n-e * o.sz,o.sz⟩)) s.t a:=fun i=>(hs.tmp i).gmono hgm
 have hv:AVRel w Z (upd γ d (some ⟨r.A.at (e * o.sz),r.n-e * o.sz,o.sz⟩)) (.sl d 0 len) (.slice (some (r.A.at (e * o.sz))) len cap):=by
  have:=AVRel.sl (w:=w) (Z:=Z) (upd γ d (some ⟨r.A.at (e * o.sz),r.n-e * o.sz,o.sz⟩)) d 0 len cap ⟨r.A.at (e * o.sz),r.n-e * o.sz,o.sz⟩ (qaj _ _ _) hl (by
   grind)
  grind[qai]
 refine⟨ht1.put (by rw[hs.siz];omega) hv,by simp[Act.put,hs.siz],hs.dfr,hs.hp.shift hid hr hg he,hs.fr,fun i oo r2 hoo hr2 p hp=>?_,hs.z0,hs.z1,fun i r2 hr2=>?_,hs.in0,hs.inp_u hu⟩
 ·simp only at hoo
  by_cases hi:i=d
  ·subst hi
   rw[qaj]at hr2
   injection hr2 with hr2;subst hr2
   refine hs.own id o r hid hr p ?_
   obtain⟨p1,p2,p3,p4⟩:=hp
   simp only[Addr.at]at p1 p2 p3
   refine⟨p1,by omega,?_,p4⟩
   omega
  ·rw[qam _ _ hi]at hoo hr2
   by_cases hii:i=id
   ·grind[qaj]
   ·rw[qam _ _ hii]at hoo;exact hs.own i oo r2 hoo hr2 p hp
 ·by_cases hi:i=d
  ·subst hi;exact .inl rfl
  ·rw[qam _ _ hi]at hr2
   exact Or.inr (hs.scp i r2 hr2)
theorem RRel.append {sz:Nat} {xs ys:List (List AV)} {cx cy rest:Array Value} (hx:RRel w Z γ sz xs cx) (hy:RRel w Z γ sz ys cy) :
  (∀ k,k<(xs++ys).length→((xs++ys).getD k []).length=sz)∧∀ k j,k<(xs++ys).length→j<sz→AVRel w Z γ (((xs++ys).getD k []).getD j .top) ((cx++cy++rest).getD (k * sz+j) undef):=by
 have hg:∀ k,(xs++ys).getD k []=if k<xs.length then xs.getD k [] else ys.getD (k-xs.length) []:=fun k=>by
  grind
 have hc:∀ i,i<cx.size+cy.size→(cx++cy++rest).getD i undef=if i<cx.size then cx.getD i undef else cy.getD (i-cx.size) undef:=fun i hi=>by
  simp only[Array.getD_eq_getD_getElem?]
  grind
 refine⟨fun k hk=>?_,fun k j hk hj=>?_⟩
 ·rw[hg];rw[List.length_append]at hk
  split
  ·exact hx.2.1 k (by omega)
  ·exact hy.2.1 _ (by omega)
 ·rw[List.length_append]at hk
  have hlt:k * sz+j<(xs.length+ys.length) * sz:=row_lt hk hj (Nat.le_refl _)
  rw[Nat.add_mul]at hlt
  rw[hg,hc _ (by rw[hx.1,hy.1];omega)]
  by_cases hkx:k<xs.length
  ·rw[if_pos hkx,if_pos (by rw[hx.1];exact row_lt hkx hj (Nat.le_refl _))]
   exact hx.2.2 k j hkx hj
  ·have h1:xs.length * sz≤k * sz:=Nat.mul_le_mul_right _ (by omega)
   rw[if_neg hkx,if_neg (by rw[hx.1];omega)]
   have h2:k * sz+j-cx.size=(k-xs.length) * sz+j:=by rw[hx.1,Nat.sub_mul];omega
   rw[h2]
   exact hy.2.2 _ j (by omega) hj
theorem getD_mem {α:Type} {l:List α} (d:α) (k:Nat) (h:k<l.length):l.getD k d∈l:=by
 grind
theorem exec_append {o:Oper} {x y:Operand} {ty xt:Nat} (ho:o.op=.call ⟨.builtin .append,#[x,y],#[ty,xt]⟩) {u:Value} (h:(Builtin.append_ #[ty,xt] o.type #[a.eval x,a.eval y]).run P w=.ok u w') :
  (execOp a.eval o).run P w=.ok (.value u) w':=by
 simp_all[execOp,resolve,invoke,builtin]
theorem evAppend_sound (hs:SRel c s Z γ a w) {o:Oper} {d ty xt:Nat} {x y:Operand} (ho:o.op=.call ⟨.builtin .append,#[x,y],#[ty,xt]⟩) (hod:o.dst=some d) (hd:d<c.n) {p:Prop} {s':S}
  (he:evAppend P s d ty xt (opd s.t x) (opd s.t y)=some (p,s')) (hp:p):Did P c a w o s' Z:=by
 have hx:=hs.tmp.opd hs.hp.gl x
 have hy:=hs.tmp.opd hs.hp.gl y
 unfold evAppend at he
 split at he
 ·rename_i e sz1 b1 z1 e2 sz2 b2 z2 hty hxt
  split at he
  ·rename_i ie q sz ys hie hsrc
   have hxu:=qau hxt rfl
   have htyu:=qau hty rfl
   have hnx:∀ k,P.underlying xt≠some (.int k):=fun k h=>by grind
   obtain⟨dd,f,z,hdd,htd,hf,hfs,hfb,hz,hzz⟩:=qbp hie
   have hs':=hs.drew
   have hy':=hs'.tmp.opd hs'.hp.gl y
   have grow:∀ (s1:S) (xs:List (List AV)) (base:Option Addr) (sc:Nat) (old:Array Value),SRel c s1 Z γ a w→s1.u=s.u→q→sz=ie.size→0<ie.size→ie.zero.length=ie.size→d ∉ s.u→sc<xs.length+ys.length→1≤ie.bytes →
     (xs.length+ys.length) * ie.bytes≤1099511627776→ie.bytes≤1048576→a.eval x=.slice base xs.length sc→(Builtin.firstCells ie.size xs.length (.slice base xs.length sc)).run P w.drew=.ok old w.drew→RRel w Z γ ie.size xs old →
     Did P c a w o (evNew d s1 ie.size (xs++ys) (.sl d 0 (xs++ys).length)) Z:=by
    intro s1 xs base sc old hs1 hu1 hq hsz hpos hzl hu hgt hb1 hbig hb2 hax hold hro
    obtain⟨new,hn1,hn2,hn3⟩:=qbc (P:=P) hs.hp hy hsrc hq
    obtain⟨new',hn1',hn2',_⟩:=qbc (P:=P) hs'.hp hy' hsrc hq
    rw[hsz]at hn1' hn2'
    have hro':RRel w.drew Z γ ie.size xs old:=⟨hro.1,hro.2.1,fun k j hk hj=>(hro.2.2 k j hk hj).world (w:=w) (w':=w.drew) (fun _ h=>h) fun _ _=>rfl⟩
    have hzs:z.cells.size=ie.size:=by grind
    obtain⟨cap,rest,hc1,hc2,hc3⟩:=append_grows (P:=P) (w:=w) (rt:=o.type) (base:=base) (sl:=xs.length) (sc:=sc) (m:=ys.length) (yv:=a.eval y) (old:=old) (new:=new')
     htyu hie hf hfb hfs hz hzs hnx hxu hn3 hgt hbig hb2 hb1 hold hn1' hro.1 hn2'.1
    have happ:=RRel.append (rest:=rest) hro' hn2'
    have happ2:∀ k j,k<(xs++ys).length→j<ie.size→AVRel w Z γ (((xs++ys).getD k []).getD j .top) ((old++new'++rest).getD (k * ie.size+j) undef):=fun k j hk hj =>
     (happ.2 k j hk hj).world (w:=w.drew) (w':=w) (fun _ h=>h) fun _ _=>rfl
    refine did_row (P:=P) (cap:=cap) (els:=xs++ys) (cells:=old++new'++rest) (fz:=(0,0)) (w':=w.drew.alloc (.cells (old++new'++rest) e)) hs1 hie hd (by grind) hpos happ.1 (by grind) (by omega) (.inr rfl) happ2 hod ?_ rfl rfl rfl rfl
    grind[exec_append]
   split at he
   ·
    rename_i hxn
    obtain⟨rfl,rfl⟩:=he
    obtain⟨hu,hpos,hzl,hq,hsz,hb1,hbig,hb2⟩:=hp
    rw[hxn]at hx
    generalize hax:a.eval x=xv at hx
    cases hx
    by_cases hy0:ys=[]
    ·subst hy0
     obtain⟨new,hn1,hn2,hn3⟩:=qbc (P:=P) hs.hp hy hsrc hq
     refine⟨_,w,.value (.slice none 0 0),_,?_,.inl rfl,by rw[hod];exact hs.phantom hd hu none rfl⟩
     refine exec_append (P:=P) ho ?_
     rw[hax]
     rw[hsz]at hn1
     simp only[List.length_nil]at hn1 hn3
     simp only[Builtin.append_,List.getElem?_toArray,List.getElem?_cons_zero,List.getElem?_cons_succ,Sem.run_bind,qaa htyu,qaa hxu,Result.andThen_ok,qas hie,Sem.run_pure,Bool.false_eq_true,if_false,hn3,Nat.add_zero,Nat.le_refl,if_true,Bool.not_false,hn1]
    ·have:=grow s [] none 0 #[] hs rfl hq hsz hpos hzl hu (by grind[List.length_pos_iff]) hb1 (by grind) hb2 hax (by rfl) ⟨by simp,fun k hk=>by grind,fun k j hk=>by grind⟩
     grind
   ·rename_i id e0 len hxs
    split at he
    ·rename_i ob hob
     simp only[Option.some.injEq,Prod.mk.injEq]at he
     obtain⟨rfl,rfl⟩:=he
     obtain⟨hu,hpos,hzl,hq,hsz,hosz,hle,hb1,hbig,hb2,hone⟩:=hp
     have hlen:((ob.els.drop e0).take len).length=len:=by grind
     obtain⟨new,hn1,hn2,hn3⟩:=qbc (P:=P) hs.hp hy hsrc hq
     rw[hsz]at hn1 hn2
     rw[hxs]at hx
     have hxr:qba s.h (.sl id e0 len)=some (e0+len≤ob.els.length,ob.sz,(ob.els.drop e0).take len):=by grind[qba]
     have hx':AVRel w.drew Z γ (.sl id e0 len) (a.eval x):=by rw[← hxs];exact hs'.tmp.opd hs'.hp.gl x
     obtain⟨old,ho1,ho2,_⟩:=qbc (P:=P) hs'.hp hx' hxr hle
     rw[hosz]at ho1 ho2
     have ho2':RRel w Z γ ie.size ((ob.els.drop e0).take len) old:=⟨ho2.1,ho2.2.1,fun k j hk hj=>(ho2.2.2 k j hk hj).world (w:=w.drew) (w':=w) (fun _ h=>h) fun _ _=>rfl⟩
     have growAll:∀ base sc,a.eval x=.slice base len sc→sc<len+ys.length→Did P c a w o ⟨upd s.t d (.sl d 0 (len+ys.length)),upd (upd s.h id none) d (some ⟨ie.size,(ob.els.drop e0).take len++ys⟩),Us.cons d s.u⟩ Z:=by
      intro base sc hax hgt
      have:=grow ⟨s.t,upd s.h id none,s.u⟩ ((ob.els.drop e0).take len) base sc old (hs.drop id) rfl hq hsz hpos hzl hu (by omega) hb1 (by grind) hb2 (by grind) (by grind) ho2'
      grind[evNew]
     generalize hax:a.eval x=xv at hx hx' ho1
     cases hx with
     | sl _ _ _ _ cap r hg hlc hc =>
      by_cases hfit:len+ys.length≤cap
      ·obtain⟨r',hr',hor⟩:=hs.hp.obj id ob hob
       rw[hg]at hr';injection hr' with hr';subst hr'
       have hrs:r.sz=ie.size:=by rw[hor.sz,hosz]
       have hnl:new.toList.length=ys.length * ie.size:=by rw[Array.length_toList];exact hn2.1
       have hk:(e0+len) * ie.size+new.toList.length≤r.n:=by
        rw[hnl,← Nat.add_mul]
        refine Nat.le_trans (Nat.mul_le_mul_right _ ?_) (by rw[← hrs];omega)
        omega
       have hone':∀ v∈new.toList,v.oneCell'=true:=by
        intro v hv
        obtain⟨i,hi,rfl⟩:=List.getElem_of_mem hv
        have hi':i<ys.length * ie.size:=by omega
        have h1:i / ie.size<ys.length:=(Nat.div_lt_iff_lt_mul hpos).2 hi'
        have h2:i % ie.size<ie.size:=Nat.mod_lt _ hpos
        have hr:=hn2.2.2 (i / ie.size) (i % ie.size) h1 h2
        have e3:i / ie.size * ie.size+i % ie.size=i:=by simp[Nat.mul_comm,Nat.div_add_mod]
        rw[e3]at hr
        have hi2:i<new.size:=by omega
        have e4:new.getD i undef=new.toList[i]:=by simp_all
        rw[e4]at hr
        refine oneA_one hr ?_
        have h5:=List.all_eq_true.1 hone (ys.getD (i / ie.size) []) (by grind)
        have h6:=hn2.2.1 _ h1
        grind
       have hw1:=hs.write (o':=⟨ie.size,ob.els.take (e0+len)++ys⟩) hob hg ((e0+len) * ie.size) new.toList hk hosz.symm (by
         simp_all[Nat.add_mul]) (fun k hkk=>by
         simp only[List.length_append,List.length_take]at hkk
         by_cases hke:k<e0+len
         ·have h1:((ob.els.take (e0+len)++ys).getD k [])=ob.els.getD k []:=by
           grind
          rw[h1,hor.len k (by omega),hosz]
         ·have h1:((ob.els.take (e0+len)++ys).getD k [])=ys.getD (k-(e0+len)) []:=by
           grind
          rw[h1,hn2.2.1 _ (by omega)]) (fun k j hkk hj=>by
         simp only[List.length_append,List.length_take]at hkk
         simp only at hj
         by_cases hke:k<e0+len
         ·have h1:((ob.els.take (e0+len)++ys).getD k [])=ob.els.getD k []:=by
           grind
          simp only[h1]
          obtain⟨v,hv,hr⟩:=hor.cell k j (by omega) (by omega)
          grind[row_lt]
         ·have h1:((ob.els.take (e0+len)++ys).getD k [])=ys.getD (k-(e0+len)) []:=by
           grind
          simp only[h1]
          have hky:k-(e0+len)<ys.length:=by omega
          have hlt:(k-(e0+len)) * ie.size+j<ys.length * ie.size:=row_lt hky hj (Nat.le_refl _)
          have hge:(e0+len) * ie.size≤k * ie.size:=Nat.mul_le_mul_right _ (by omega)
          have hsub:(k-(e0+len)) * ie.size=k * ie.size-(e0+len) * ie.size:=Nat.sub_mul _ _ _
          have hi2:(k-(e0+len)) * ie.size+j<new.size:=by grind
          refine⟨_,hn2.2.2 _ j hky hj,.inl ⟨by grind,by grind,?_⟩⟩
          rw[hosz,show k * ie.size+j-(e0+len) * ie.size=(k-(e0+len)) * ie.size+j by omega]
          simp_all)
       have hshift:=hw1.shift (id:=id) (d:=d) (e:=e0) (len:=len+ys.length) (cap:=cap) (o:=⟨ie.size,ob.els.take (e0+len)++ys⟩) (qaj _ _ _) hg hd hu (by grind) hfit (by grind)
       refine⟨upd γ d (some ⟨r.A.at (e0 * ie.size),r.n-e0 * ie.size,ie.size⟩),w.setCells r.A.block (r.A.off+(e0+len) * ie.size) new.toList,.value (.slice (some (r.A.at (e0 * r.sz))) (len+ys.length) cap),.slice (some (r.A.at (e0 * r.sz))) (len+ys.length) cap,?_,.inl rfl,?_⟩
       ·refine exec_append (P:=P) ho ?_
        rw[hax]
        have hst:=run_storeCells_cells (P:=P) r.A.block (r.A.off+(e0+len) * ie.size) new.toList 0 w (fun j hj=>by
          obtain⟨⟨v,hv⟩,_⟩:=hor.live ((e0+len) * ie.size+j) (by omega)
          grind[Addr.at]) (fun j hj=>by
          obtain⟨_,hfz⟩:=hor.live ((e0+len) * ie.size+j) (by omega)
          grind[Addr.at]) hone'
        simp only[Nat.add_zero]at hst
        have haddr:(r.A.at (e0 * r.sz)).add (len * ie.size)=⟨r.A.block,r.A.off+(e0+len) * ie.size,none⟩:=by
         grind[at_add,Addr.at,Nat.add_mul]
        simp only[Builtin.append_,List.getElem?_toArray,List.getElem?_cons_zero,List.getElem?_cons_succ,Sem.run_bind,qaa htyu,qaa hxu,Result.andThen_ok,qas hie,Sem.run_pure,Bool.false_eq_true,if_false,hn3,hfit,if_true,Bool.not_false,hn1,haddr,hst]
       ·rw[hod]
        have e5:(ob.els.take (e0+len)++ys).drop e0=(ob.els.drop e0).take len++ys:=by
         grind
        have e6:upd (upd (upd s.h id (some ⟨ie.size,ob.els.take (e0+len)++ys⟩)) id none) d (some ⟨ie.size,(ob.els.drop e0).take len++ys⟩)=upd (upd s.h id none) d (some ⟨ie.size,(ob.els.drop e0).take len++ys⟩):=by
         congr 1;funext i;grind[upd]
        grind
      grind
     | sl0 _ _ _ A =>
      by_cases hy0:ys=[]
      ·subst hy0
       refine⟨upd γ d (some ⟨⟨0,0,none⟩,0,ie.size⟩),w,.value (.slice A 0 0),.slice A 0 0,?_,.inl rfl,?_⟩
       ·refine exec_append (P:=P) ho ?_
        rw[hax]
        simp only[List.length_nil]at hn1 hn3
        have hnew:new=#[]:=by have:=hn2.1;grind
        subst hnew
        cases A with
        | none=>simp only[Builtin.append_,List.getElem?_toArray,List.getElem?_cons_zero,List.getElem?_cons_succ,Sem.run_bind,qaa htyu,qaa hxu,Result.andThen_ok,qas hie,Sem.run_pure,Bool.false_eq_true,if_false,hn3,Nat.add_zero,Nat.le_refl,if_true,Bool.not_false,hn1]
        | some A=>simp only[Builtin.append_,List.getElem?_toArray,List.getElem?_cons_zero,List.getElem?_cons_succ,Sem.run_bind,qaa htyu,qaa hxu,Result.andThen_ok,qas hie,Sem.run_pure,Bool.false_eq_true,if_false,hn3,Nat.add_zero,Nat.le_refl,if_true,Bool.not_false,hn1,storeCells]
       ·rw[hod]
        have:=(hs.drop id).phantom (sz:=ie.size) hd hu A rfl
        grind[evNew]
      grind
    grind
   grind
  grind
 grind
end
end Go.Av

end
section
namespace Go.Av
open Go.RowKit
def spl (els:List (List AV)) (k:Nat) (ys:List (List AV)):List (List AV):=els.take k++(ys++els.drop (k+ys.length))
theorem spl_length (els:List (List AV)) (k:Nat) (ys:List (List AV)) (h:k≤els.length):(spl els k ys).length=max els.length (k+ys.length):=by
 grind[spl]
theorem spl_getD (els:List (List AV)) (k:Nat) (ys:List (List AV)) (h:k≤els.length) (e:Nat) :
  (spl els k ys).getD e []=if e<k then els.getD e [] else if e<k+ys.length then ys.getD (e-k) [] else els.getD e []:=by
 grind[spl]
section
variable {P:Program} {w w':World} {Z:Addr→Prop} {γ:Gm} {h:Hp} {c:Cx} {s:S} {a:Act}
theorem rows_one {sz:Nat} {ys:List (List AV)} {new:Array Value} (hpos:0<sz) (hn:RRel w Z γ sz ys new) (hone:ys.all (fun r=>r.all oneA)=true):∀ v∈new.toList,v.oneCell'=true:=by
 intro v hv
 obtain⟨i,hi,rfl⟩:=List.getElem_of_mem hv
 have hi2:i<new.size:=by omega
 have hi':i<ys.length * sz:=by rw[← hn.1];omega
 have h1:i / sz<ys.length:=(Nat.div_lt_iff_lt_mul hpos).2 hi'
 have h2:i % sz<sz:=Nat.mod_lt _ hpos
 have hr:=hn.2.2 (i / sz) (i % sz) h1 h2
 have e3:i / sz * sz+i % sz=i:=by simp[Nat.mul_comm,Nat.div_add_mod]
 rw[e3]at hr
 have e4:new.getD i undef=new.toList[i]:=by simp_all
 rw[e4]at hr
 refine oneA_one hr ?_
 have h5:=List.all_eq_true.1 hone (ys.getD (i / sz) []) (by grind)
 have h6:=hn.2.1 _ h1
 grind
theorem SRel.rewr (hs:SRel c s Z γ a w) {id k:Nat} {o:Ob} {r:Rg} {new:Array Value} {ys:List (List AV)} (hid:s.h id=some o) (hr:γ id=some r) (hk:k≤o.els.length) (hfit:(k+ys.length) * o.sz≤r.n)
  (hn:RRel w Z γ o.sz ys new):SRel c ⟨s.t,upd s.h id (some ⟨o.sz,spl o.els k ys⟩),s.u⟩ Z γ a (w.setCells r.A.block (r.A.off+k * o.sz) new.toList):=by
 obtain⟨r',hr',hor⟩:=hs.hp.obj id o hid
 rw[hr]at hr';injection hr' with hr';subst hr'
 have hnl:new.toList.length=ys.length * o.sz:=by exact hn.1
 refine hs.write (o':=⟨o.sz,spl o.els k ys⟩) hid hr (k * o.sz) new.toList (by grind) rfl ?_ (fun e he=>?_) (fun e j he hj=>?_)
 ·simp only[spl_length _ _ _ hk]
  rcases Nat.le_total o.els.length (k+ys.length)with h | h
  ·grind
  ·rw[Nat.max_eq_left h];exact hor.fit
 ·simp only[spl_length _ _ _ hk]at he
  simp only[spl_getD _ _ _ hk]
  split
  ·exact hor.len e (by omega)
  ·split
   ·exact hn.2.1 _ (by omega)
   ·exact hor.len e (by omega)
 ·simp only[spl_length _ _ _ hk]at he
  simp only[spl_getD _ _ _ hk]
  by_cases h1:e<k
  ·simp only[if_pos h1]
   obtain⟨v,hv,hrv⟩:=hor.cell e j (by omega) hj
   grind[row_lt]
  ·by_cases h2:e<k+ys.length
   ·simp only[if_neg h1,if_pos h2]
    have hky:e-k<ys.length:=by omega
    have hlt:(e-k) * o.sz+j<ys.length * o.sz:=row_lt hky hj (Nat.le_refl _)
    have hge:k * o.sz≤e * o.sz:=Nat.mul_le_mul_right _ (by omega)
    have hsub:(e-k) * o.sz=e * o.sz-k * o.sz:=Nat.sub_mul _ _ _
    have hi2:(e-k) * o.sz+j<new.size:=by grind
    refine⟨_,hn.2.2 _ j hky hj,.inl ⟨by omega,by omega,?_⟩⟩
    rw[show e * o.sz+j-k * o.sz=(e-k) * o.sz+j by omega]
    simp_all
   ·simp only[if_neg h1,if_neg h2]
    obtain⟨v,hv,hrv⟩:=hor.cell e j (by omega) hj
    have hge:(k+ys.length) * o.sz≤e * o.sz:=Nat.mul_le_mul_right _ (by omega)
    grind
theorem run_splice {k:Nat} {o:Ob} {r:Rg} {new:Array Value} {ys:List (List AV)} (hor:ORel w Z γ o r) (hpos:0<o.sz) (hfit:(k+ys.length) * o.sz≤r.n) {w1:World} {Z1:Addr→Prop} {γ1:Gm} (hn:RRel w1 Z1 γ1 o.sz ys new) (hone:ys.all (fun r=>r.all oneA)=true) :
  (storeCells ⟨r.A.block,r.A.off+k * o.sz,none⟩ new.toList).run P w=.ok () (w.setCells r.A.block (r.A.off+k * o.sz) new.toList):=by
 have hnl:new.toList.length=ys.length * o.sz:=by exact hn.1
 rw[Nat.add_mul]at hfit
 have hst:=run_storeCells_cells (P:=P) r.A.block (r.A.off+k * o.sz) new.toList 0 w (fun j hj=>by
   obtain⟨⟨v,hv⟩,_⟩:=hor.live (k * o.sz+j) (by omega)
   grind[Addr.at]) (fun j hj=>by
   obtain⟨_,hfz⟩:=hor.live (k * o.sz+j) (by omega)
   grind[Addr.at]) (rows_one hpos hn hone)
 omega
theorem srcRows_take (hh:HRel w Z γ h) {x:AV} {xv:Value} (hx:AVRel w Z γ x xv) {p:Prop} {sz:Nat} {els:List (List AV)} (he:qba h x=some (p,sz,els)) (hp:p) (n:Nat) (hn:n≤els.length) :
  ∃ cells,(Builtin.firstCells sz n xv).run P w=.ok cells w∧RRel w Z γ sz (els.take n) cells:=by
 have hl:(els.take n).length=n:=by grind
 cases hx with
 | lst γ sz' els' A cap vf hlc hc hs hr =>
  simp only[qba,Option.some.injEq,Prod.mk.injEq]at he
  obtain⟨rfl,rfl,rfl⟩:=he
  have hx2:AVRel w Z γ (.lst sz' (els'.take n)) (.slice A n cap):=by
   have:=AVRel.lst (w:=w) (Z:=Z) γ sz' (els'.take n) A cap vf (by omega) (fun hne=>by
    obtain⟨A',rfl,hz,hA,hcell⟩:=hc (by grind)
    grind) (fun i hi=>by
    grind) (fun i j hi hj=>by
    grind)
   grind
  obtain⟨cells,h1,h2,_⟩:=qbc (P:=P) hh hx2 (p:=True) (sz:=sz') (els:=els'.take n) rfl trivial
  rw[hl]at h1
  refine⟨cells,?_,h2⟩
  have:∀ m,Builtin.firstCells sz' n (.slice A m cap)=Builtin.firstCells sz' n (.slice A n cap):=fun m=>by cases A <;> rfl
  grind
 | sl γ id e len cap r hg hlc hc =>
  simp only[qba]at he
  split at he
  ·rename_i o ho
   obtain⟨rfl,rfl,rfl⟩:=he
   have hn':n≤len:=by grind
   have hx2:AVRel w Z γ (.sl id e n) (.slice (some (r.A.at (e * r.sz))) n cap):=.sl _ _ _ _ _ r hg (by omega) hc
   obtain⟨cells,h1,h2,_⟩:=qbc (P:=P) hh hx2 (p:=e+n≤o.els.length) (sz:=o.sz) (els:=(o.els.drop e).take n) (by grind[qba]) (by omega)
   have e1:((o.els.drop e).take len).take n=(o.els.drop e).take n:=by grind
   rw[e1]at hl ⊢
   rw[hl]at h1
   exact⟨cells,h1,h2⟩
  grind
 | slc γ id e len cap r hg hlc hc =>
  simp only[qba]at he
  split at he
  ·rename_i o ho
   obtain⟨rfl,rfl,rfl⟩:=he
   have hn':n≤len:=by grind
   have hx2:AVRel w Z γ (.sl id e n) (.slice (some (r.A.at (e * r.sz))) n cap):=.sl _ _ _ _ _ r hg (by omega) hc
   obtain⟨cells,h1,h2,_⟩:=qbc (P:=P) hh hx2 (p:=e+n≤o.els.length) (sz:=o.sz) (els:=(o.els.drop e).take n) (by grind[qba]) (by omega)
   have e1:((o.els.drop e).take len).take n=(o.els.drop e).take n:=by grind
   rw[e1]at hl ⊢
   rw[hl]at h1
   exact⟨cells,h1,h2⟩
  grind
 | sl0 γ id e A =>
  simp only[qba]at he
  split at he
  ·rename_i o ho
   obtain⟨rfl,rfl,rfl⟩:=he
   have:n=0:=by grind
   subst this
   refine⟨#[],?_,⟨by simp,fun k hk=>by omega,fun k j hk=>by omega⟩⟩
   cases A <;> simp[Builtin.firstCells,loadCells,loadCellsFrom]
  grind
 | slc0 γ id e A =>
  simp only[qba]at he
  split at he
  ·rename_i o ho
   obtain⟨rfl,rfl,rfl⟩:=he
   have:n=0:=by grind
   subst this
   refine⟨#[],?_,⟨by simp,fun k hk=>by omega,fun k j hk=>by omega⟩⟩
   cases A <;> simp[Builtin.firstCells,loadCells,loadCellsFrom]
  grind
 | _=>grind[qba]
def slOf:AV→Option (Nat×Nat×Nat)
 | .sl id e len=>some (id,e,len)
 | .slc id e len _=>some (id,e,len)
 | _=>none
theorem slOf_rel {x:AV} {xv:Value} (hx:AVRel w Z γ x xv) {id e len:Nat} (h:slOf x=some (id,e,len)) :
  (∃ r cap,γ id=some r∧len≤cap∧(e+cap) * r.sz≤r.n∧xv=.slice (some (r.A.at (e * r.sz))) len cap)∨(len=0∧∃ A,xv=.slice A 0 0):=by
 cases hx <;> simp only[slOf,Option.some.injEq,Prod.mk.injEq,reduceCtorEq]at h
 all_goals simp_all
def evCopy (P:Program) (s:S) (d:Option Nat) (ty:Nat) (x y:AV):Option (Prop×S) :=
 match ttOf P ty with
 | some ⟨.slc e,_,_,_⟩=>match ttOf P e,qba s.h y,slOf x with
  | some ie,some (q,sz,ys),some (id,e0,len)=>match s.h id with
   | some o=>some (q∧sz=ie.size∧o.sz=ie.size∧0<ie.size∧e0+min ys.length len≤o.els.length∧(ys.take (min ys.length len)).all (fun r=>r.all oneA)=true,
     ⟨putA s.t d (.int .i64 (min ys.length len:Nat)),upd s.h id (some ⟨ie.size,spl o.els e0 (ys.take (min ys.length len))⟩),s.u⟩)
   | none=>none
  | _,_,_=>none
 | _=>none
theorem spl_nil (els:List (List AV)) (k:Nat):spl els k []=els:=by simp[spl]
theorem evCopy_sound (hs:SRel c s Z γ a w) {o:Oper} {ty:Nat} {xt:Nat} {x y:Operand} (ho:o.op=.call ⟨.builtin .copy,#[x,y],#[ty,xt]⟩) (hd:∀ k,o.dst=some k→k<c.n) {p:Prop} {s':S}
  (he:evCopy P s o.dst ty (opd s.t x) (opd s.t y)=some (p,s')) (hp:p):Did P c a w o s' Z:=by
 have hx:=hs.tmp.opd hs.hp.gl x
 have hy:=hs.tmp.opd hs.hp.gl y
 unfold evCopy at he
 split at he
 ·rename_i e sz1 b1 z1 hty
  split at he
  ·rename_i ie q sz ys id e0 len hie hsrc hsl
   split at he
   ·rename_i ob hob
    obtain⟨rfl,rfl⟩:=he
    obtain⟨hq,hsz,hosz,hpos,hle,hone⟩:=hp
    obtain⟨_,_,_,hm⟩:=qbc (P:=P) hs.hp hy hsrc hq
    obtain⟨new,hn1,hn2⟩:=srcRows_take (P:=P) hs.hp hy hsrc hq (min ys.length len) (Nat.min_le_left _ _)
    rw[hsz]at hn1 hn2
    have hlen:(ys.take (min ys.length len)).length=min ys.length len:=by simp
    have hmin:Nat.min ys.length len=min ys.length len:=rfl
    have fin:∀ {w1:World} {s1:S},s1.t=s.t→SRel c s1 Z γ a w1→(execOp a.eval o).run P w=.ok (.value (.int .i64 (min ys.length len:Nat))) w1→Did P c a w o ⟨putA s.t o.dst (.int .i64 (min ys.length len:Nat)),s1.h,s1.u⟩ Z:=by
     intro w1 s1 ht hs1 hr
     refine⟨γ,w1,_,.int .i64 (min ys.length len:Nat),hr,.inl rfl,?_,by cases o.dst <;> simp[Act.put,hs1.siz],by cases o.dst <;> exact hs1.dfr,hs1.hp,hs1.fr,hs1.own,hs1.z0,hs1.z1,hs1.scp,hs1.in0,hs1.inp⟩
     rw[← ht]
     exact hs1.tmp.putO (fun k hk=>by rw[hs1.siz];grind) (.int _ _ _)
    have hex:∀ {w1:World},(Builtin.copy_ #[ty,xt] o.type #[a.eval x,a.eval y]).run P w=.ok (.int .i64 (min ys.length len:Nat)) w1→(execOp a.eval o).run P w=.ok (.value (.int .i64 (min ys.length len:Nat))) w1:=by
     simp_all[execOp,resolve,invoke,builtin]
    rcases slOf_rel hx hsl with⟨r,cap,hg,hlc,hc,hxv⟩ | ⟨rfl,A,hxv⟩
    ·obtain⟨r',hr',hor⟩:=hs.hp.obj id ob hob
     rw[hg]at hr';injection hr' with hr';subst hr'
     have hrs:r.sz=ob.sz:=hor.sz
     rw[← hosz]at hn2 hpos
     have hfit:(e0+(ys.take (min ys.length len)).length) * ob.sz≤r.n:=by
      rw[hlen,← hrs]
      refine Nat.le_trans (Nat.mul_le_mul_right _ ?_) hc
      omega
     have hsp:=hs.rewr hob hg (by omega) hfit hn2
     have hrn:=run_splice (P:=P) (k:=e0) hor hpos hfit hn2 hone
     rw[hosz]at hsp
     have:=fin (s1:=⟨s.t,upd s.h id (some ⟨ie.size,spl ob.els e0 (ys.take (min ys.length len))⟩),s.u⟩) rfl hsp (hex ?_)
     ·omega
     ·rw[hxv]
      have haddr:r.A.at (e0 * r.sz)=⟨r.A.block,r.A.off+e0 * ie.size,none⟩:=by rw[hrs,hosz];rfl
      rw[hosz]at hrn
      simp only[Builtin.copy_,List.getElem?_toArray,List.getElem?_cons_zero,List.getElem?_cons_succ,Sem.run_bind,qaa (qau hty rfl),Result.andThen_ok,hm,hmin,qas hie,hn1,haddr,hrn,goInt,Sem.run_pure]
    ·have h0:min ys.length 0=0:=by omega
     have h1:(spl ob.els e0 (ys.take (min ys.length 0)))=ob.els:=by simp[spl_nil]
     have h2:upd s.h id (some ⟨ie.size,spl ob.els e0 (ys.take (min ys.length 0))⟩)=s.h:=by
      rw[h1,← hosz]
      funext i;unfold upd;split
      ·rename_i hi;rw[hi,hob]
      rfl
     rw[h2]
     have:=fin (s1:=s) rfl hs (hex ?_)
     ·omega
     ·rw[hxv]
      have hnew:new=#[]:=by
       have:=hn2.1;grind
      subst hnew
      rw[h0]at hn1 ⊢
      have hmin0:Nat.min ys.length 0=0:=h0
      simp only[Builtin.copy_,List.getElem?_toArray,List.getElem?_cons_zero,List.getElem?_cons_succ,Sem.run_bind,qaa (qau hty rfl),Result.andThen_ok,hm,hmin0,qas hie,hn1,goInt]
      cases A <;> simp[storeCells]
   grind
  grind
 grind
def evClear (P:Program) (s:S) (ty:Nat) (x:AV):Option (Prop×S) :=
 match ttOf P ty with
 | some ⟨.slc e,_,_,_⟩=>match ttOf P e,slOf x with
  | some ie,some (id,e0,len)=>match s.h id with
   | some o=>some (o.sz=ie.size∧0<ie.size∧ie.zero.length=ie.size∧e0+len≤o.els.length∧ie.zero.all oneA=true,⟨s.t,upd s.h id (some ⟨ie.size,spl o.els e0 (List.replicate len ie.zero)⟩),s.u⟩)
   | none=>none
  | _,_=>none
 | _=>none
theorem evClear_sound (hs:SRel c s Z γ a w) {o:Oper} {ty:Nat} {x:Operand} (ho:o.op=.call ⟨.builtin .clear,#[x],#[ty]⟩) (hod:o.dst=none) {p:Prop} {s':S}
  (he:evClear P s ty (opd s.t x)=some (p,s')) (hp:p):Did P c a w o s' Z:=by
 have hx:=hs.tmp.opd hs.hp.gl x
 unfold evClear at he
 split at he
 ·rename_i e sz1 b1 z1 hty
  split at he
  ·rename_i ie id e0 len hie hsl
   split at he
   ·rename_i ob hob
    obtain⟨rfl,rfl⟩:=he
    obtain⟨hosz,hpos,hzl,hle,hzo⟩:=hp
    obtain⟨dd,f,z,hdd,htd,hf,hsz,hbb,hz,hzz⟩:=qbp hie
    have hzr:=zero_rows (w:=w) (Z:=Z) (γ:=γ) hzz hzl hpos len
    have hzs:z.cells.size=ie.size:=by grind
    have hzc:Builtin.zeroCells z.cells len=(Array.range (len * ie.size)).map fun k=>z.cells[k % z.cells.size]!:=by
     grind[Builtin.zeroCells]
    rw[← hzc]at hzr
    have hone:(List.replicate len ie.zero).all (fun r=>r.all oneA)=true:=by
     grind
    have hex:∀ {w1:World},(Builtin.clear_ #[ty] o.type #[a.eval x]).run P w=.ok (.tuple #[]) w1→(execOp a.eval o).run P w=.ok (.value (.tuple #[])) w1:=by
     intro w1 h
     simp only[execOp,ho,resolve,Sem.run_bind,Sem.run_pure,Result.andThen_ok,invoke,builtin]
     simp_all
    have triv:(len=0∨∃ A,a.eval x=.slice A 0 0)→len=0→Did P c a w o ⟨s.t,upd s.h id (some ⟨ie.size,spl ob.els e0 (List.replicate len ie.zero)⟩),s.u⟩ Z:=by
     intro _ h0
     subst h0
     have h2:upd s.h id (some ⟨ie.size,spl ob.els e0 (List.replicate 0 ie.zero)⟩)=s.h:=by
      simp only[List.replicate_zero,spl_nil]
      rw[← hosz]
      funext i;unfold upd;split
      ·rename_i hi;rw[hi,hob]
      rfl
     rw[h2]
     refine⟨γ,w,.value (.tuple #[]),.tuple #[],hex ?_,.inl rfl,by rw[hod];exact hs⟩
     have hxv:∃ A cap,a.eval x=.slice A 0 cap:=by
      grind[slOf_rel]
     obtain⟨A,cap,hxv⟩:=hxv
     rw[hxv]
     cases A <;> simp[Builtin.clear_,qaa (qau hty rfl)]
    rcases slOf_rel hx hsl with⟨r,cap,hg,hlc,hc,hxv⟩ | ⟨h0,A,hxv⟩
    ·by_cases h0:len=0
     ·grind
     ·obtain⟨r',hr',hor⟩:=hs.hp.obj id ob hob
      rw[hg]at hr';injection hr' with hr';subst hr'
      have hrs:r.sz=ob.sz:=hor.sz
      rw[← hosz]at hzr hpos
      have hfit:(e0+(List.replicate len ie.zero).length) * ob.sz≤r.n:=by
       rw[List.length_replicate,← hrs]
       refine Nat.le_trans (Nat.mul_le_mul_right _ ?_) hc
       omega
      have hsp:=hs.rewr hob hg (by omega) hfit hzr
      have hrn:=run_splice (P:=P) (k:=e0) hor hpos hfit hzr hone
      rw[hosz]at hsp hrn
      refine⟨γ,_,.value (.tuple #[]),.tuple #[],hex ?_,.inl rfl,by rw[hod];exact hsp⟩
      rw[hxv]
      have haddr:r.A.at (e0 * r.sz)=⟨r.A.block,r.A.off+e0 * ie.size,none⟩:=by rw[hrs,hosz];rfl
      simp[Builtin.clear_,qaa (qau hty rfl),run_zero hf hz,haddr,hrn]
    grind
   grind
  grind
 grind
end
end Go.Av

end
section
namespace Go.Av
open Go.RowKit
section
variable {P:Program} {w w':World} {Z:Addr→Prop} {γ:Gm} {h:Hp} {c:Cx} {s:S} {a:Act}
def evAppendC (P:Program) (s:S) (d ty xt id e0 len cap:Nat) (y:AV):Option (Prop×S) :=
 match ttOf P ty,ttOf P xt with
 | some ⟨.slc e,_,_,_⟩,some ⟨.slc _,_,_,_⟩=>match ttOf P e,qba s.h y,s.h id with
  | some ie,some (q,sz,ys),some o =>
   if len+ys.length≤cap then
    some (q∧sz=ie.size∧o.sz=ie.size∧0<ie.size∧e0+len≤o.els.length∧ys.all (fun r=>r.all oneA)=true,
     ⟨upd s.t d (.slc id e0 (len+ys.length) cap),upd s.h id (some ⟨ie.size,spl o.els (e0+len) ys⟩),s.u⟩)
   else
    some (d ∉ s.u∧0<ie.size∧ie.zero.length=ie.size∧q∧sz=ie.size∧o.sz=ie.size∧e0+len≤o.els.length∧1≤ie.bytes∧(len+ys.length) * ie.bytes≤1099511627776∧ie.bytes≤1048576,
     evNew d s ie.size ((o.els.drop e0).take len++ys) (.sl d 0 (len+ys.length)))
  | _,_,_=>none
 | _,_=>none
def evAppendZ (P:Program) (s:S) (d ty xt id e0 len cap n:Nat):Option (Prop×S) :=
 match ttOf P ty,ttOf P xt with
 | some ⟨.slc e,_,_,_⟩,some ⟨.int _,_,_,_⟩=>match ttOf P e,s.h id with
  | some ie,some o=>some (d ∉ s.u∧0<n∧cap<len+n∧0<ie.size∧ie.zero.length=ie.size∧o.sz=ie.size∧e0+len≤o.els.length∧1≤ie.bytes∧(len+n) * ie.bytes≤1099511627776∧ie.bytes≤1048576,
     evNew d s ie.size ((o.els.drop e0).take len++List.replicate n ie.zero) (.sl d 0 (len+n)))
  | _,_=>none
 | _,_=>none
def evApp (P:Program) (s:S) (d ty xt:Nat):AV→AV→Option (Prop×S)
 | .slc id e0 len cap,.int _ n=>if 0≤n then evAppendZ P s d ty xt id e0 len cap n.toNat else none
 | .slc id e0 len cap,y=>evAppendC P s d ty xt id e0 len cap y
 | x,y=>evAppend P s d ty xt x y
theorem evAppendC_sound (hs:SRel c s Z γ a w) {o:Oper} {d ty xt:Nat} {x y:Operand} (ho:o.op=.call ⟨.builtin .append,#[x,y],#[ty,xt]⟩) (hod:o.dst=some d) (hd:d<c.n) {p:Prop} {s':S} {id e0 len cap:Nat}
  (hxs:opd s.t x=.slc id e0 len cap) (he:evAppendC P s d ty xt id e0 len cap (opd s.t y)=some (p,s')) (hp:p):Did P c a w o s' Z:=by
 have hx:=hs.tmp.opd hs.hp.gl x
 have hy:=hs.tmp.opd hs.hp.gl y
 rw[hxs]at hx
 unfold evAppendC at he
 split at he
 ·rename_i e sz1 b1 z1 e2 sz2 b2 z2 hty hxt
  split at he
  ·rename_i ie q sz ys ob hie hsrc hob
   have hxu:=qau hxt rfl
   have htyu:=qau hty rfl
   have hnx:∀ k,P.underlying xt≠some (.int k):=fun k h=>by grind
   obtain⟨dd,f,z,hdd,htd,hf,hfs,hfb,hz,hzz⟩:=qbp hie
   split at he
   ·rename_i hfit
    simp only[Option.some.injEq,Prod.mk.injEq]at he
    obtain⟨rfl,rfl⟩:=he
    obtain⟨hq,hsz,hosz,hpos,hle,hone⟩:=hp
    obtain⟨new,hn1,hn2,hn3⟩:=qbc (P:=P) hs.hp hy hsrc hq
    rw[hsz]at hn1 hn2
    generalize hax:a.eval x=xv at hx
    cases hx with
    | slc _ _ _ _ _ r hg hlc hc =>
     obtain⟨r',hr',hor⟩:=hs.hp.obj id ob hob
     rw[hg]at hr';injection hr' with hr';subst hr'
     have hrs:r.sz=ob.sz:=hor.sz
     rw[← hosz]at hn2 hpos
     have hfit2:(e0+len+ys.length) * ob.sz≤r.n:=by
      rw[← hrs]
      refine Nat.le_trans (Nat.mul_le_mul_right _ ?_) hc
      omega
     have hsp:=hs.rewr hob hg (by omega) hfit2 hn2
     have hrn:=run_splice (P:=P) (w:=w) (k:=e0+len) hor hpos hfit2 hn2 hone
     rw[hosz]at hsp hrn
     refine⟨γ,w.setCells r.A.block (r.A.off+(e0+len) * ie.size) new.toList,.value (.slice (some (r.A.at (e0 * r.sz))) (len+ys.length) cap),.slice (some (r.A.at (e0 * r.sz))) (len+ys.length) cap,exec_append (P:=P) ho ?_,.inl rfl,?_⟩
     ·rw[hax]
      have haddr:(r.A.at (e0 * r.sz)).add (len * ie.size)=⟨r.A.block,r.A.off+(e0+len) * ie.size,none⟩:=by
       grind[at_add,Addr.at]
      simp only[Builtin.append_,List.getElem?_toArray,List.getElem?_cons_zero,List.getElem?_cons_succ,Sem.run_bind,qaa htyu,qaa hxu,Result.andThen_ok,qas hie,Sem.run_pure,Bool.false_eq_true,if_false,hn3,hfit,if_true,Bool.not_false,hn1,haddr,hrn]
     ·rw[hod]
      refine⟨hsp.tmp.put (by rw[hsp.siz];omega) (.slc _ _ _ _ _ r hg hfit hc),by simp[Act.put,hsp.siz],hsp.dfr,hsp.hp,hsp.fr,hsp.own,hsp.z0,hsp.z1,hsp.scp,hsp.in0,hsp.inp⟩
    | slc0 _ _ _ A =>
     have hy0:ys=[]:=by grind
     subst hy0
     have h2:upd s.h id (some ⟨ie.size,spl ob.els (e0+0) []⟩)=s.h:=by
      rw[spl_nil,← hosz]
      funext i;unfold upd;split
      ·rename_i hi;rw[hi,hob]
      rfl
     rw[h2]
     refine⟨γ,w,.value (.slice A 0 0),.slice A 0 0,exec_append (P:=P) ho ?_,.inl rfl,?_⟩
     ·rw[hax]
      simp only[List.length_nil]at hn1 hn3
      have hnew:new=#[]:=by have:=hn2.1;grind
      subst hnew
      cases A with
      | none=>simp only[Builtin.append_,List.getElem?_toArray,List.getElem?_cons_zero,List.getElem?_cons_succ,Sem.run_bind,qaa htyu,qaa hxu,Result.andThen_ok,qas hie,Sem.run_pure,Bool.false_eq_true,if_false,hn3,Nat.add_zero,Nat.le_refl,if_true,Bool.not_false,hn1]
      | some A=>simp only[Builtin.append_,List.getElem?_toArray,List.getElem?_cons_zero,List.getElem?_cons_succ,Sem.run_bind,qaa htyu,qaa hxu,Result.andThen_ok,qas hie,Sem.run_pure,Bool.false_eq_true,if_false,hn3,Nat.add_zero,Nat.le_refl,if_true,Bool.not_false,hn1,storeCells]
     ·rw[hod]
      refine⟨hs.tmp.put (by rw[hs.siz];omega) (.slc0 _ _ _ _),by simp[Act.put,hs.siz],hs.dfr,hs.hp,hs.fr,hs.own,hs.z0,hs.z1,hs.scp,hs.in0,hs.inp⟩
   ·rename_i hnf
    obtain⟨rfl,rfl⟩:=he
    obtain⟨hu,hpos,hzl,hq,hsz,hosz,hle,hb1,hbig,hb2⟩:=hp
    have hs':=hs.drew
    have hy':=hs'.tmp.opd hs'.hp.gl y
    obtain⟨new,hn1,hn2,hn3⟩:=qbc (P:=P) hs.hp hy hsrc hq
    obtain⟨new',hn1',hn2',_⟩:=qbc (P:=P) hs'.hp hy' hsrc hq
    rw[hsz]at hn1' hn2'
    have hlen:((ob.els.drop e0).take len).length=len:=by grind
    have hxr:qba s.h (.slc id e0 len cap)=some (e0+len≤ob.els.length,ob.sz,(ob.els.drop e0).take len):=by grind[qba]
    have hx':AVRel w.drew Z γ (.slc id e0 len cap) (a.eval x):=by rw[← hxs];exact hs'.tmp.opd hs'.hp.gl x
    obtain⟨old,ho1,ho2,_⟩:=qbc (P:=P) hs'.hp hx' hxr hle
    rw[hosz,hlen]at ho1
    rw[hosz]at ho2
    have hzs:z.cells.size=ie.size:=by grind
    obtain⟨base,hax⟩:∃ base,a.eval x=.slice base len cap:=by
     generalize a.eval x=xv at hx
     cases hx<;>simp
    rw[hax]at ho1
    have hos:old.size=len * ie.size:=by rw[ho2.1,hlen]
    obtain⟨cp,rest,hc1,hc2,hc3⟩:=append_grows (P:=P) (w:=w) (rt:=o.type) (base:=base) (sl:=len) (sc:=cap) (m:=ys.length) (yv:=a.eval y) (old:=old) (new:=new')
     htyu hie hf hfb hfs hz hzs hnx hxu hn3 (by omega) hbig hb2 hb1 ho1 hn1' hos hn2'.1
    have happ:=RRel.append (rest:=rest) ho2 hn2'
    have happ2:∀ k j,k<((ob.els.drop e0).take len++ys).length→j<ie.size→AVRel w Z γ ((((ob.els.drop e0).take len++ys).getD k []).getD j .top) ((old++new'++rest).getD (k * ie.size+j) undef):=fun k j hk hj =>
     (happ.2 k j hk hj).world (w:=w.drew) (w':=w) (fun _ h=>h) fun _ _=>rfl
    have hll:((ob.els.drop e0).take len++ys).length=len+ys.length:=by grind
    have:=did_row (P:=P) (cap:=cp) (els:=(ob.els.drop e0).take len++ys) (cells:=old++new'++rest) (fz:=(0,0)) (w':=w.drew.alloc (.cells (old++new'++rest) e)) hs hie hd hu hpos happ.1 (by omega) (by omega) (.inr rfl) happ2 hod (by
     grind[exec_append]) rfl rfl rfl rfl
    grind
  grind
 grind
theorem evAppendZ_sound (hs:SRel c s Z γ a w) {o:Oper} {d ty xt:Nat} {x y:Operand} (ho:o.op=.call ⟨.builtin .append,#[x,y],#[ty,xt]⟩) (hod:o.dst=some d) (hd:d<c.n) {p:Prop} {s':S} {id e0 len cap n:Nat} {k:IntKind}
  (hxs:opd s.t x=.slc id e0 len cap) (hys:opd s.t y=.int k (n:Int)) (he:evAppendZ P s d ty xt id e0 len cap n=some (p,s')) (hp:p):Did P c a w o s' Z:=by
 have hx:=hs.tmp.opd hs.hp.gl x
 have hy:=hs.tmp.opd hs.hp.gl y
 rw[hxs]at hx
 rw[hys]at hy
 unfold evAppendZ at he
 split at he
 ·rename_i e sz1 b1 z1 kt sz2 b2 z2 hty hxt
  split at he
  ·rename_i ie ob hie hob
   obtain⟨rfl,rfl⟩:=he
   obtain⟨hu,hn0,hnf,hpos,hzl,hosz,hle,hb1,hbig,hb2⟩:=hp
   have hxu:=tt_int hxt rfl
   have htyu:=qau hty rfl
   obtain⟨dd,f,z,hdd,htd,hf,hfs,hfb,hz,hzz⟩:=qbp hie
   have hs':=hs.drew
   have hlen:((ob.els.drop e0).take len).length=len:=by grind
   have hxr:qba s.h (.slc id e0 len cap)=some (e0+len≤ob.els.length,ob.sz,(ob.els.drop e0).take len):=by grind[qba]
   have hx':AVRel w.drew Z γ (.slc id e0 len cap) (a.eval x):=by rw[← hxs];exact hs'.tmp.opd hs'.hp.gl x
   obtain⟨old,ho1,ho2,_⟩:=qbc (P:=P) hs'.hp hx' hxr hle
   rw[hosz,hlen]at ho1
   rw[hosz]at ho2
   have hzs:z.cells.size=ie.size:=by grind
   obtain⟨base,hax⟩:∃ base,a.eval x=.slice base len cap:=by
    generalize a.eval x=xv at hx
    cases hx<;>simp
   rw[hax]at ho1
   have hay:a.eval y=.int k (n:Int):=by
    generalize a.eval y=yv at hy
    cases hy;rfl
   have hos:old.size=len * ie.size:=by rw[ho2.1,hlen]
   have hzr:=zero_rows (w:=w.drew) (Z:=Z) (γ:=γ) hzz hzl hpos n
   have hzc:Builtin.zeroCells z.cells n=(Array.range (n * ie.size)).map fun k=>z.cells[k % z.cells.size]!:=by
    grind[Builtin.zeroCells]
   rw[← hzc]at hzr
   have hle1:len+n≤(len+n) * ie.bytes:=Nat.le_mul_of_pos_right _ hb1
   have hle2:n * ie.bytes≤(len+n) * ie.bytes:=Nat.mul_le_mul_right _ (by omega)
   have hcap:Builtin.nextslicecap (len+n) cap * f.bytes≤281474976710656:=by
    have h1:=nextcap_le hnf
    have h2:Builtin.nextslicecap (len+n) cap * ie.bytes≤(3 * (len+n)+1000) * ie.bytes:=Nat.mul_le_mul_right _ h1
    grind
   have hrun:=Go.Lib.run_append_grow_zeros (P:=P) w ty xt o.type e f z k _ htyu hxu hf hz base len cap old.toList (by simp_all) n hn0 (by omega) hnf (by omega) (by grind) hcap
   obtain⟨G,hG⟩:∃ G,grownCap w (len+n) cap e=G:=⟨_,rfl⟩
   have hGle:len+n≤G:=by
    grind[grownCap,Question.cut]
   rw[hG]at hrun
   have happ:=RRel.append (rest:=Builtin.zeroCells z.cells (G-(len+n))) ho2 hzr
   have happ2:∀ k j,k<((ob.els.drop e0).take len++List.replicate n ie.zero).length→j<ie.size→AVRel w Z γ ((((ob.els.drop e0).take len++List.replicate n ie.zero).getD k []).getD j .top) ((old++Builtin.zeroCells z.cells n++Builtin.zeroCells z.cells (G-(len+n))).getD (k * ie.size+j) undef):=fun k j hk hj =>
    (happ.2 k j hk hj).world (w:=w.drew) (w':=w) (fun _ h=>h) fun _ _=>rfl
   have hll:((ob.els.drop e0).take len++List.replicate n ie.zero).length=len+n:=by grind
   have hcs:(old++Builtin.zeroCells z.cells n++Builtin.zeroCells z.cells (G-(len+n))).size=G * ie.size:=by
    simp only[Array.size_append,hos,Builtin.zeroCells,Array.size_map,Array.size_range,hzs]
    rw[← Nat.add_mul,← Nat.add_mul];grind
   have:=did_row (P:=P) (cap:=G) (els:=(ob.els.drop e0).take len++List.replicate n ie.zero) (cells:=old++Builtin.zeroCells z.cells n++Builtin.zeroCells z.cells (G-(len+n))) (fz:=(0,0)) (w':=w.drew.alloc (.cells (old++Builtin.zeroCells z.cells n++Builtin.zeroCells z.cells (G-(len+n))) e)) hs hie hd hu hpos happ.1 (by omega) (by omega) (.inr rfl) happ2 hod (by
    rw[hll]
    refine exec_append (P:=P) ho ?_
    simp_all) rfl rfl rfl rfl
   grind
  grind
 grind
theorem evApp_sound (hs:SRel c s Z γ a w) {o:Oper} {d ty xt:Nat} {x y:Operand} (ho:o.op=.call ⟨.builtin .append,#[x,y],#[ty,xt]⟩) (hod:o.dst=some d) (hd:d<c.n) {p:Prop} {s':S}
  (he:evApp P s d ty xt (opd s.t x) (opd s.t y)=some (p,s')) (hp:p):Did P c a w o s' Z:=by
 unfold evApp at he
 grind[evAppendZ_sound,evAppendC_sound,evAppend_sound]
end
end Go.Av

end
section
namespace Go.Av
open Go.RowKit
mutual
def clA:AV→Bool
 | .ptr _ _ _=>false
 | .sl _ _ _=>false
 | .bsl _ _ _ _ _=>false
 | .slc _ _ _ _=>false
 | .agg cs=>clL cs
 | .tup cs=>clL cs
 | .fn _ cs=>clL cs
 | .top=>true
 | .int _ _=>true
 | .bool _=>true
 | .str _=>true
 | .nilp=>true
 | .nils=>true
 | .nili=>true
 | .ifc=>true
 | .anyb=>true
 | .any1=>true
 | .lst _ _=>true
 | .elm _=>true
def clL:List AV→Bool
 | []=>true
 | a::r=>clA a && clL r
end
mutual
def noA:AV→Bool
 | .lst _ _=>false
 | .elm _=>false
 | .agg cs=>noL cs
 | .tup cs=>noL cs
 | .fn _ cs=>noL cs
 | .ptr _ _ _=>true
 | .sl _ _ _=>true
 | .bsl _ _ _ _ _=>true
 | .slc _ _ _ _=>true
 | .top=>true
 | .int _ _=>true
 | .bool _=>true
 | .str _=>true
 | .nilp=>true
 | .nils=>true
 | .nili=>true
 | .ifc=>true
 | .anyb=>true
 | .any1=>true
def noL:List AV→Bool
 | []=>true
 | a::r=>noA a && noL r
end
theorem clL_getD:∀ (l:List AV) (j:Nat),clL l=true→clA (l.getD j .top)=true
 | [],j,_=>by rfl
 | a::r,0,h=>by grind[clL]
 | a::r,j+1,h=>by simp only[clL,Bool.and_eq_true]at h;simpa using clL_getD r j h.2
theorem noL_getD:∀ (l:List AV) (j:Nat),noL l=true→noA (l.getD j .top)=true
 | [],j,_=>by rfl
 | a::r,0,h=>by grind[noL]
 | a::r,j+1,h=>by simp only[noL,Bool.and_eq_true]at h;simpa using noL_getD r j h.2
theorem noL_append:∀ (l m:List AV),noL (l++m)=(noL l && noL m)
 | [],m=>by rfl
 | a::r,m=>by simp[noL,noL_append r m,Bool.and_assoc]
theorem AVRel.closed {w:World} {Z:Addr→Prop} {γ γ':Gm} {av:AV} {v:Value} (h:AVRel w Z γ av v) (hc:clA av=true):AVRel w Z γ' av v:=by
 revert hc
 generalize hG:γ=G at h
 intro hc
 revert hG hc
 induction h with
 | top=>simp[top]
 | int=>simp[int]
 | bool=>simp[bool]
 | str=>simp[str]
 | nilp=>simp[nilp]
 | nils=>simp[nils]
 | nili=>simp[nili]
 | ifc=>simp[ifc]
 | anyb=>simp[anyb]
 | any1 γ v hv=>(try intros);exact .any1 _ _ hv
 | agg γ cs vs hs _ ih=>grind[agg,clL_getD,clA]
 | tup γ cs vs hs _ ih=>grind[tup,clL_getD,clA]
 | fn γ f cs vs hs _ ih=>grind[fn,clL_getD,clA]
 | lst γ sz els a cap vf hl hc hs hr _=>intros;exact .lst _ _ _ _ _ vf hl hc hs hr
 | elm γ cs A vf hA hz hc hr _=>simp_all[elm]
 | _=>simp[clA]
theorem AVRel.anyZ {w w':World} {Z Z':Addr→Prop} {γ:Gm} {av:AV} {v:Value} (h:AVRel w Z γ av v) (hno:noA av=true):AVRel w' Z' γ av v:=by
 induction h with
 | top=>simp[top]
 | int=>simp[int]
 | bool=>simp[bool]
 | str=>simp[str]
 | nilp=>simp[nilp]
 | nils=>simp[nils]
 | nili=>simp[nili]
 | ifc=>simp[ifc]
 | anyb=>simp[anyb]
 | any1 γ v hv=>(try intros);exact .any1 _ _ hv
 | agg γ cs vs hs _ ih=>grind[agg,noL_getD,noA]
 | tup γ cs vs hs _ ih=>grind[tup,noL_getD,noA]
 | fn γ f cs vs hs _ ih=>grind[fn,noL_getD,noA]
 | ptr γ id e off r hg=>grind[ptr]
 | bsl γ id e off esz n r hg=>grind[bsl]
 | sl γ id e len cap r hg hl hc=>grind[sl]
 | sl0=>simp[sl0]
 | slc γ id e len cap r hg hl hc=>grind[slc]
 | slc0=>simp[slc0]
 | lst=>grind[noA]
 | elm=>grind[noA]
theorem renL_closed (ρ:Nat→Option Plc):∀ (av:AV),clA av=true→ren ρ av=av
 | .top,_=>by rfl
 | .int _ _,_=>by rfl
 | .bool _,_=>by rfl
 | .str _,_=>by rfl
 | .nilp,_=>by rfl
 | .nils,_=>by rfl
 | .nili,_=>by rfl
 | .ifc,_=>by rfl
 | .anyb,_=>by rfl
 | .any1,_=>by rfl
 | .lst _ _,_=>by rfl
 | .elm _,_=>by rfl
 | .ptr _ _ _,h=>by grind[clA]
 | .sl _ _ _,h=>by grind[clA]
 | .bsl _ _ _ _ _,h=>by grind[clA]
 | .slc _ _ _ _,h=>by grind[clA]
 | .agg cs,h=>by simp[ren,renL_closedL ρ cs h]
 | .tup cs,h=>by simp[ren,renL_closedL ρ cs h]
 | .fn f cs,h=>by simp[ren,renL_closedL ρ cs h]
where
 renL_closedL (ρ:Nat→Option Plc):∀ (l:List AV),clL l=true→renL ρ l=l
 | [],_=>rfl
 | a::r,h=>by
  simp only[clL,Bool.and_eq_true]at h
  simp[renL,renL_closed ρ a h.1,renL_closedL ρ r h.2]
def hpOf:List (Nat×Ob)→Hp
 | [],_=>none
 | (j,o)::r,i=>if i=j then some o else hpOf r i
theorem qbl:∀ {l:List (Nat×Ob)} {i:Nat} {o:Ob},hpOf l i=some o→(i,o)∈l
 | [],_,_,h=>by grind[hpOf]
 | (j,o')::r,i,o,h=>by
  unfold hpOf at h
  split at h
  ·grind
  ·exact List.mem_cons_of_mem _ (qbl h)
def hasBody (P:Program) (f:Nat):Bool :=
 match P.funcs[f]? with
 | some fn=>!(fn.name == "runtime.NumGoroutine") && !fn.body.isNone
 | none=>false
def CallsX (P:Program) (f:Nat) (vs:Array Value) (w:World) (R:Ending→World→Prop):Prop :=
 (hasBody P f=true∧Calls P f vs w R)∨∃ v w',(callFunc f vs).run P w=.ok (.value v) w'∧R (.returned v) w'
theorem CallsX.mono {P:Program} {f:Nat} {vs:Array Value} {w:World} {R R':Ending→World→Prop} (h:CallsX P f vs w R) (hr:∀ e w',R e w'→R' e w'):CallsX P f vs w R' :=
 h.elim (fun h=>.inl ⟨h.1,h.2.mono hr⟩) fun⟨v,w',h1,h2⟩=>.inr ⟨v,w',h1,hr _ _ h2⟩
theorem enter_run {P:Program} {f:Nat} (h:hasBody P f=true) (vs:Array Value) (w:World):(callFunc f vs).run P w=.ok (.enter f vs) w:=by
 unfold hasBody at h
 cases hf:P.funcs[f]? with
 | none=>grind
 | some fn =>
  simp only[hf,Bool.and_eq_true,Bool.not_eq_true']at h
  unfold callFunc
  simp only[Sem.run_bind]
  show(Result.ok P w).andThen _=_
  simp only[Result.andThen_ok,hf,h.1,h.2,Bool.false_eq_true,if_false]
  rfl
theorem CallsX.calls {P:Program} {f:Nat} {vs:Array Value} {w:World} {R:Ending→World→Prop} (hb:hasBody P f=true) (h:CallsX P f vs w R):Calls P f vs w R:=by
 rcases h with⟨_,h⟩ | ⟨v,w',h1,_⟩
 all_goals grind[enter_run]
def ACall (P:Program) (f:Nat) (args:List AV) (L:List (Nat×Ob)) (R:AV→List (Nat×Ob)→Prop):Prop :=
 ∀ (w:World) (Z:Addr→Prop) (γ:Gm) (vs:Array Value),CRel w Z γ args vs→HRel w Z γ (hpOf L)→(∀ id r,γ id=some r→(hpOf L id).isSome=true) →
  CallsX P f vs w fun e w'=>∃ v r L' Z' γ',e=.returned v∧R r L'∧AVRel w' Z' γ' r v∧HRel w' Z' γ' (hpOf L')∧Fr (Foot γ (hpOf L)) w w' ∧
   (∀ p,Z p→Z' p)∧(∀ p,Z' p→Z p∨w.heap.size≤p.block) ∧
   (∀ id o rg,hpOf L' id=some o→γ' id=some rg→∀ p,rg.has p→w.heap.size≤p.block∨Foot γ (hpOf L) p) ∧
   (∀ id o,hpOf L id=some o→γ' id=γ id)
theorem ACall.mono {P:Program} {f:Nat} {args:List AV} {L:List (Nat×Ob)} {R R':AV→List (Nat×Ob)→Prop} (h:ACall P f args L R) (hr:∀ r L',R r L'→R' r L'):ACall P f args L R' :=
 fun w Z γ vs h1 h2 h3=>(h w Z γ vs h1 h2 h3).mono fun e w' ⟨v,r,L',Z',γ',a,b,rest⟩=>⟨v,r,L',Z',γ',a,hr _ _ b,rest⟩
def clR (els:List (List AV)):Bool:=els.all clL
def vwOk (h:Hp) (ids:List Nat) (sz:Nat) (els:List (List AV)):AV→Prop
 | .lst sz' els'=>sz'=sz∧els'=els
 | .nils=>els=[]
 | .sl id e len=>match h id with
  | some o=>o.sz=sz∧e+len≤o.els.length∧(o.els.drop e).take len=els∧clR els=true∧id ∉ ids
  | none=>False
 | .slc id e len _=>match h id with
  | some o=>o.sz=sz∧e+len≤o.els.length∧(o.els.drop e).take len=els∧clR els=true∧id ∉ ids
  | none=>False
 | .bsl id e off esz n=>match h id with
  | some o=>esz=sz∧e<o.els.length∧off+n * esz≤o.sz∧chunks esz n ((o.els.getD e []).drop off)=els∧clR els=true∧id ∉ ids
  | none=>False
 | _=>False
mutual
def mtA (h:Hp) (ids:List Nat) (ρ:Nat→Option Plc):AV→AV→Prop
 | .top,_=>True
 | .ptr c e o,x=>match ρ c with
  | some (.whole id)=>x=.ptr id e o
  | some (.sub id e0 o0 _)=>e=0∧x=.ptr id e0 (o0+o)
  | none=>False
 | .bsl c e o esz n,x=>match ρ c with
  | some (.whole id)=>x=.bsl id e o esz n
  | some (.sub id e0 o0 _)=>e=0∧x=.bsl id e0 (o0+o) esz n
  | none=>False
 | .sl c e len,x=>match ρ c with
  | some (.whole id)=>x=.sl id e len∨∃ cap,x=.slc id e len cap
  | _=>False
 | .slc c e len cap,x=>match ρ c with
  | some (.whole id)=>x=.slc id e len cap
  | _=>False
 | .lst sz els,x=>vwOk h ids sz els x
 | .agg cs,x=>match x with
  | .agg ds=>mtL h ids ρ cs ds
  | _=>False
 | .tup cs,x=>match x with
  | .tup ds=>mtL h ids ρ cs ds
  | _=>False
 | .fn f cs,x=>match x with
  | .fn g ds=>f=g∧mtL h ids ρ cs ds
  | _=>False
 | .int k n,x=>x=.int k n
 | .bool b,x=>x=.bool b
 | .str s,x=>x=.str s
 | .nilp,x=>x=.nilp
 | .nils,x=>x=.nils
 | .nili,x=>x=.nili
 | .ifc,x=>x=.ifc
 | .anyb,x=>x=.anyb
 | .any1,x=>x=.any1
 | .elm cs,x=>x=.elm cs
def mtL (h:Hp) (ids:List Nat) (ρ:Nat→Option Plc):List AV→List AV→Prop
 | [],ds=>ds=[]
 | a::r,ds=>match ds with
  | d::s=>mtA h ids ρ a d∧mtL h ids ρ r s
  | []=>False
end
theorem qbf {h:Hp} {ids:List Nat} {ρ:Nat→Option Plc}:∀ {cs ds:List AV},mtL h ids ρ cs ds→cs.length=ds.length
 | [],ds,hm=>by grind[mtL]
 | a::r,[],hm=>by grind[mtL]
 | a::r,d::s,hm=>by simp[qbf hm.2]
theorem mtL_getD {h:Hp} {ids:List Nat} {ρ:Nat→Option Plc}:∀ {cs ds:List AV} (j:Nat),mtL h ids ρ cs ds→j<cs.length→mtA h ids ρ (cs.getD j .top) (ds.getD j .top)
 | [],ds,j,hm,hj=>by grind
 | a::r,[],j,hm,hj=>by grind[mtL]
 | a::r,d::s,0,hm,hj=>by grind[mtL]
 | a::r,d::s,j+1,hm,hj=>by simpa using mtL_getD j hm.2 (by grind)
def gmC (γ:Gm) (ρ:Nat→Option Plc):Gm:=fun c =>
 match ρ c with
 | some (.whole id)=>γ id
 | some (.sub id e0 o0 n)=>match γ id with
  | some r=>some ⟨r.A.at (e0 * r.sz+o0),n,n⟩
  | none=>none
 | none=>none
def zC (Z:Addr→Prop) (γ:Gm) (h:Hp) (ids:List Nat) (p:Addr):Prop :=
 Z p∨∃ id o r,h id=some o∧γ id=some r∧r.has p∧id ∉ ids
section
variable {w:World} {Z:Addr→Prop} {γ:Gm} {h:Hp} {ids:List Nat} {ρ:Nat→Option Plc}
theorem rows_view (hh:HRel w Z γ h) {id e len cap sz:Nat} {o:Ob} {r:Rg} {els:List (List AV)} (ho:h id=some o) (hr:γ id=some r) (hid:id ∉ ids) (h1:o.sz=sz) (h2:e+len≤o.els.length)
  (h3:(o.els.drop e).take len=els) (h4:clR els=true) (hcap:len≤cap) (G:Gm):AVRel w (zC Z γ h ids) G (.lst sz els) (.slice (some (r.A.at (e * r.sz))) len cap):=by
 obtain⟨r',hr',hor⟩:=hh.obj id o ho
 rw[hr]at hr';injection hr' with hr';subst hr'
 subst h1
 have hlen:els.length=len:=by grind
 have hget:∀ i,i<len→els.getD i []=o.els.getD (e+i) []:=fun i hi=>by grind
 have hex:∀ i j,∃ v,i<len→j<o.sz→w.cell? (r.A.at ((e+i) * o.sz+j))=some v∧AVRel w Z γ ((o.els.getD (e+i) []).getD j .top) v:=fun i j=>by
  by_cases hi:i<len
  ·by_cases hj:j<o.sz
   ·obtain⟨v,hv⟩:=hor.cell (e+i) j (by omega) hj
    grind
   ·exact⟨undef,fun _ h=>absurd h hj⟩
  ·exact⟨undef,fun h=>absurd h hi⟩
 let f:=fun i j=>Classical.choose (hex i j)
 have hf:∀ i j,i<len→j<o.sz→w.cell? (r.A.at ((e+i) * o.sz+j))=some (f i j)∧AVRel w Z γ ((o.els.getD (e+i) []).getD j .top) (f i j):=fun i j hi hj=>Classical.choose_spec (hex i j) hi hj
 have hat:∀ i j,(r.A.at (e * r.sz)).at (i * o.sz+j)=r.A.at ((e+i) * o.sz+j):=fun i j=>by
  rw[qai,hor.sz];grind
 have hin:∀ i j,i<len→j<o.sz→r.has (r.A.at ((e+i) * o.sz+j)):=fun i j hi hj=>by
  apply Rg.has_at
  exact row_lt (show e+i<o.els.length by omega) hj hor.fit
 have:=AVRel.lst (w:=w) (Z:=zC Z γ h ids) G o.sz els (some (r.A.at (e * r.sz))) cap f (by omega) (fun _=>⟨_,rfl,fun i j hi hj=>?_,rfl,fun i j hi hj=>?_⟩) (fun i hi=>?_) (fun i j hi hj=>?_)
 ·grind
 ·rw[hat];exact .inr ⟨id,o,r,ho,hr,hin i j (by omega) hj,hid⟩
 ·grind
 ·rw[hlen]at hi;rw[hget i hi];exact hor.len _ (by omega)
 ·rw[hlen]at hi
  have h5:=(hf i j hi hj).2
  rw[← hget i hi]at h5
  refine(AVRel.closed h5 ?_).world (fun _ h=>.inl h) fun _ _=>rfl
  exact clL_getD _ _ (List.all_eq_true.1 h4 _ (getD_mem _ _ (by omega)))
theorem bsl_view (hh:HRel w Z γ h) {id e off esz n:Nat} {o:Ob} {r:Rg} {els:List (List AV)} (ho:h id=some o) (hr:γ id=some r) (hid:id ∉ ids) (h2:e<o.els.length) (hb:off+n * esz≤o.sz)
  (h3:chunks esz n ((o.els.getD e []).drop off)=els) (h4:clR els=true) (G:Gm):AVRel w (zC Z γ h ids) G (.lst esz els) (.slice (some (r.A.at (e * r.sz+off))) n n):=by
 obtain⟨r',hr',hor⟩:=hh.obj id o ho
 rw[hr]at hr';injection hr' with hr';subst hr'
 have hlen:els.length=n:=by grind[chunks]
 have hrow:=hor.len e h2
 have hle:∀ i,i<n→i * esz+esz≤n * esz:=fun i hi=>by
  have:(i+1) * esz≤n * esz:=Nat.mul_le_mul_right _ hi
  grind
 have hget:∀ i,i<n→els.getD i []=(((o.els.getD e []).drop off).drop (i * esz)).take esz:=fun i hi=>by grind[chunks]
 have hgj:∀ i j,i<n→j<esz→(els.getD i []).getD j .top=(o.els.getD e []).getD (off+(i * esz+j)) .top:=fun i j hi hj=>by
  grind
 have hex:∀ i j,∃ v,i<n→j<esz→w.cell? (r.A.at (e * o.sz+(off+(i * esz+j))))=some v∧AVRel w Z γ ((o.els.getD e []).getD (off+(i * esz+j)) .top) v:=fun i j=>by
  by_cases hi:i<n
  ·by_cases hj:j<esz
   ·obtain⟨v,hv⟩:=hor.cell e (off+(i * esz+j)) h2 (by grind)
    grind
   ·exact⟨undef,fun _ h=>absurd h hj⟩
  ·exact⟨undef,fun h=>absurd h hi⟩
 let f:=fun i j=>Classical.choose (hex i j)
 have hf:∀ i j,i<n→j<esz→w.cell? (r.A.at (e * o.sz+(off+(i * esz+j))))=some (f i j)∧AVRel w Z γ ((o.els.getD e []).getD (off+(i * esz+j)) .top) (f i j):=fun i j hi hj=>Classical.choose_spec (hex i j) hi hj
 have hat:∀ i j,(r.A.at (e * r.sz+off)).at (i * esz+j)=r.A.at (e * o.sz+(off+(i * esz+j))):=fun i j=>by
  rw[qai,hor.sz];grind
 have:=AVRel.lst (w:=w) (Z:=zC Z γ h ids) G esz els (some (r.A.at (e * r.sz+off))) n f (by omega) (fun _=>⟨_,rfl,fun i j hi hj=>?_,rfl,fun i j hi hj=>?_⟩) (fun i hi=>?_) (fun i j hi hj=>?_)
 ·grind
 ·rw[hat]
  refine .inr ⟨id,o,r,ho,hr,Rg.has_at ?_,hid⟩
  exact row_lt h2 (by grind) hor.fit
 ·grind
 ·grind
 ·rw[hlen]at hi
  have h5:=(hf i j hi hj).2
  rw[← hgj i j hi hj]at h5
  refine(AVRel.closed h5 ?_).world (fun _ h=>.inl h) fun _ _=>rfl
  exact clL_getD _ _ (List.all_eq_true.1 h4 _ (getD_mem _ _ (by omega)))
mutual
theorem mtA_rel (hh:HRel w Z γ h):∀ (av x:AV) (v:Value),mtA h ids ρ av x→AVRel w Z γ x v→AVRel w (zC Z γ h ids) (gmC γ ρ) av v
 | .top,_,_,_,_=>.top _ _
 | .int k n,x,v,hm,hr=>by subst hm;cases hr;exact .int _ _ _
 | .bool b,x,v,hm,hr=>by subst hm;cases hr;exact .bool _ _
 | .str s,x,v,hm,hr=>by subst hm;cases hr;exact .str _ _
 | .nilp,x,v,hm,hr=>by subst hm;cases hr;exact .nilp _
 | .nils,x,v,hm,hr=>by subst hm;cases hr;exact .nils _
 | .nili,x,v,hm,hr=>by subst hm;cases hr;exact .nili _
 | .ifc,x,v,hm,hr=>by subst hm;cases hr;exact .ifc _ _ _
 | .anyb,x,v,hm,hr=>by subst hm;cases hr;exact .anyb _ _
 | .any1,x,v,hm,hr=>by subst hm;cases hr;rename_i h;exact .any1 _ _ h
 | .elm cs,x,v,hm,hr=>by
  subst hm
  exact(AVRel.closed (hr.world (Z':=zC Z γ h ids) (fun _ h=>.inl h) fun _ _=>rfl) rfl)
 | .agg cs,x,v,hm,hr=>by
  cases x <;> simp only[mtA]at hm
  cases hr with
  | agg _ _ vs hs hr =>
   exact .agg _ _ _ (by grind[qbf]) fun j hj=>mtL_rel hh cs _ vs hm (by grind[qbf]) (fun k hk=>hr k (by grind[qbf])) j hj
 | .tup cs,x,v,hm,hr=>by
  cases x <;> simp only[mtA]at hm
  cases hr with
  | tup _ _ vs hs hr =>
   exact .tup _ _ _ (by grind[qbf]) fun j hj=>mtL_rel hh cs _ vs hm (by grind[qbf]) (fun k hk=>hr k (by grind[qbf])) j hj
 | .fn f cs,x,v,hm,hr=>by
  cases x <;> simp only[mtA]at hm
  obtain⟨rfl,hm⟩:=hm
  cases hr with
  | fn _ _ _ vs hs hr =>
   exact .fn _ _ _ _ (by grind[qbf]) fun j hj=>mtL_rel hh cs _ vs hm (by grind[qbf]) (fun k hk=>hr k (by grind[qbf])) j hj
 | .ptr c e o,x,v,hm,hr=>by
  simp only[mtA]at hm
  cases hc:ρ c with
  | none=>grind
  | some p =>
   cases p with
   | whole id =>
    simp only[hc]at hm;subst hm
    cases hr with
    | ptr _ _ _ _ r hg=>exact .ptr _ _ _ _ r (by grind[gmC])
   | sub id e0 o0 n =>
    simp only[hc]at hm
    obtain⟨rfl,rfl⟩:=hm
    cases hr with
    | ptr _ _ _ _ r hg =>
     have:=AVRel.ptr (w:=w) (Z:=zC Z γ h ids) (gmC γ ρ) c 0 o ⟨r.A.at (e0 * r.sz+o0),n,n⟩ (by grind[gmC])
     grind[qai]
 | .bsl c e o esz k,x,v,hm,hr=>by
  simp only[mtA]at hm
  cases hc:ρ c with
  | none=>grind
  | some p =>
   cases p with
   | whole id =>
    simp only[hc]at hm;subst hm
    cases hr with
    | bsl _ _ _ _ _ _ r hg=>exact .bsl _ _ _ _ _ _ r (by grind[gmC])
   | sub id e0 o0 n =>
    simp only[hc]at hm
    obtain⟨rfl,rfl⟩:=hm
    cases hr with
    | bsl _ _ _ _ _ _ r hg =>
     have:=AVRel.bsl (w:=w) (Z:=zC Z γ h ids) (gmC γ ρ) c 0 o esz k ⟨r.A.at (e0 * r.sz+o0),n,n⟩ (by grind[gmC])
     grind[qai]
 | .sl c e len,x,v,hm,hr=>by
  simp only[mtA]at hm
  cases hc:ρ c with
  | none=>grind
  | some p =>
   cases p with
   | whole id =>
    simp only[hc]at hm
    rcases hm with rfl | ⟨cp,rfl⟩
    ·cases hr with
     | sl _ _ _ _ cap r hg hl hcc=>exact .sl _ _ _ _ _ r (by grind[gmC]) hl hcc
     | sl0=>exact .sl0 _ _ _ _
    ·cases hr with
     | slc _ _ _ _ cap r hg hl hcc=>exact .sl _ _ _ _ _ r (by grind[gmC]) hl hcc
     | slc0=>exact .sl0 _ _ _ _
   | sub id e0 o0 n=>grind
 | .slc c e len cap,x,v,hm,hr=>by
  simp only[mtA]at hm
  cases hc:ρ c with
  | none=>grind
  | some p =>
   cases p with
   | whole id =>
    simp only[hc]at hm;subst hm
    cases hr with
    | slc _ _ _ _ cap r hg hl hcc=>exact .slc _ _ _ _ _ r (by grind[gmC]) hl hcc
    | slc0=>exact .slc0 _ _ _ _
   | sub id e0 o0 n=>grind
 | .lst sz els,x,v,hm,hr=>by
  simp only[mtA]at hm
  cases hr with
  | lst _ _ _ a cap vf hl hc hs hr =>
   obtain⟨rfl,rfl⟩:=hm
   exact(AVRel.lst (Z:=Z) γ _ _ a cap vf hl hc hs hr).world (fun _ h=>.inl h) (fun _ _=>rfl) |>.closed rfl
  | nils =>
   subst hm
   exact .lst _ sz [] none 0 (fun _ _=>undef) (Nat.le_refl _) (fun h=>absurd rfl h) (fun i hi=>by grind) (fun i j hi=>by grind)
  | sl _ id e len cap r hg hl hc =>
   grind[vwOk,rows_view]
  | sl0 _ id e a =>
   simp only[vwOk]at hm
   split at hm
   ·rename_i o ho
    obtain⟨h1,h2,h3,h4,h5⟩:=hm
    have:els=[]:=by grind
    subst this
    exact .lst _ sz [] a 0 (fun _ _=>undef) (Nat.le_refl _) (fun h=>absurd rfl h) (fun i hi=>by grind) (fun i j hi=>by grind)
   grind
  | slc _ id e len cap r hg hl hc =>
   grind[vwOk,rows_view]
  | slc0 _ id e a =>
   simp only[vwOk]at hm
   split at hm
   ·rename_i o ho
    obtain⟨h1,h2,h3,h4,h5⟩:=hm
    have:els=[]:=by grind
    subst this
    exact .lst _ sz [] a 0 (fun _ _=>undef) (Nat.le_refl _) (fun h=>absurd rfl h) (fun i hi=>by grind) (fun i j hi=>by grind)
   grind
  | bsl _ id e off esz n r hg =>
   grind[vwOk,bsl_view]
  | _=>grind[vwOk]
theorem mtL_rel (hh:HRel w Z γ h):∀ (cs ds:List AV) (vs:Array Value),mtL h ids ρ cs ds→vs.size=cs.length→(∀ j,j<cs.length→AVRel w Z γ (ds.getD j .top) (vs.getD j undef)) →
  ∀ j,j<cs.length→AVRel w (zC Z γ h ids) (gmC γ ρ) (cs.getD j .top) (vs.getD j undef)
 | [],ds,vs,hm,hs,hr,j,hj=>by grind
 | a::r,[],vs,hm,hs,hr,j,hj=>by grind[mtL]
 | a::r,d::s,vs,hm,hs,hr,0,hj=>by
  have:=hr 0 (by simp)
  exact mtA_rel hh a d _ hm.1 this
 | a::r,d::s,vs,hm,hs,hr,j+1,hj=>by
  have h1:=mtL_rel hh r s (vs.extract 1 vs.size) hm.2 (by grind) (fun k hk=>by
   have:=hr (k+1) (by grind)
   simp_all[Nat.add_comm]) j (by grind)
  simp_all[Nat.add_comm]
end
end
end Go.Av

end
section
namespace Go.Av
open Go.RowKit
def plOf:List (Nat×Plc)→Nat→Option Plc
 | [],_=>none
 | (j,p)::r,i=>if i=j then some p else plOf r i
def phOf:List (Nat×Nat)→Nat→Option Nat
 | [],_=>none
 | (j,p)::r,i=>if i=j then some p else phOf r i
def phInv:List (Nat×Nat)→Nat→Option Nat
 | [],_=>none
 | (j,p)::r,i=>if i=p then some j else phInv r i
def Plc.id:Plc→Nat
 | .whole i=>i
 | .sub i _ _ _=>i
theorem qbx:∀ {l:List (Nat×Plc)} {i:Nat} {p:Plc},plOf l i=some p→(i,p)∈l
 | [],_,_,h=>by grind[plOf]
 | (j,q)::r,i,p,h=>by
  unfold plOf at h
  split at h
  ·grind
  ·exact List.mem_cons_of_mem _ (qbx h)
theorem phOf_mem:∀ {l:List (Nat×Nat)} {i p:Nat},phOf l i=some p→(i,p)∈l
 | [],_,_,h=>by grind[phOf]
 | (j,q)::r,i,p,h=>by
  unfold phOf at h
  split at h
  ·grind
  ·exact List.mem_cons_of_mem _ (phOf_mem h)
theorem phInv_mem:∀ {l:List (Nat×Nat)} {i p:Nat},phInv l p=some i→(i,p)∈l
 | [],_,_,h=>by grind[phInv]
 | (j,q)::r,i,p,h=>by
  unfold phInv at h
  split at h
  ·grind
  ·exact List.mem_cons_of_mem _ (phInv_mem h)
theorem phInv_of:∀ {l:List (Nat×Nat)} {i p:Nat},(l.map (·.2)).Nodup→(i,p)∈l→phInv l p=some i
 | [],_,_,_,h=>by grind
 | (j,q)::r,i,p,hn,h=>by
  simp only[List.map_cons,List.nodup_cons]at hn
  unfold phInv
  simp only[List.mem_cons,Prod.mk.injEq]at h
  rcases h with⟨rfl,rfl⟩ | h
  ·simp
  ·rw[if_neg]
   ·exact phInv_of hn.2 h
   grind
def ren2 (pl:List (Nat×Plc)) (φ:List (Nat×Nat)):Nat→Option Plc:=fun c =>
 match plOf pl c with
 | some p=>some p
 | none=>match phOf φ c with
  | some id=>some (.whole id)
  | none=>none
def renOb (ρ:Nat→Option Plc) (o:Ob):Ob:=⟨o.sz,o.els.map (renL ρ)⟩
def mtRs (h:Hp) (ids:List Nat) (ρ:Nat→Option Plc):List (List AV)→List (List AV)→Prop
 | [],Ds=>Ds=[]
 | c::r,Ds=>match Ds with
  | d::s=>mtL h ids ρ c d∧mtRs h ids ρ r s
  | []=>False
theorem mtRs_at {h:Hp} {ids:List Nat} {ρ:Nat→Option Plc}:∀ {els Els:List (List AV)},mtRs h ids ρ els Els→els.length=Els.length∧∀ e,e<els.length→mtL h ids ρ (els.getD e []) (Els.getD e [])
 | [],Ds,hm=>by
  grind[mtRs]
 | c::r,[],hm=>by grind[mtRs]
 | c::r,d::s,hm=>by
  obtain⟨h1,h2⟩:=mtRs_at hm.2
  refine⟨by simp[h1],fun e he=>?_⟩
  cases e with
  | zero=>simpa using hm.1
  | succ e=>simpa using h2 e (by simpa using he)
def rowsMt (h:Hp) (ids:List Nat) (ρ:Nat→Option Plc) (els Els:List (List AV)):Prop :=
 ((els=Els∧clR els=true)∨mtRs h ids ρ els Els)∨∃ cs ds,els=[cs]∧Els=[ds]∧mtL h ids ρ cs ds
def inMt1 (hv h:Hp) (ids:List Nat) (ρ:Nat→Option Plc) (o:Ob):Plc→Prop
 | .whole id=>∃ O,h id=some O∧O.sz=o.sz∧rowsMt hv ids ρ o.els O.els
 | .sub id e0 o0 n=>∃ O cs,h id=some O∧n=o.sz∧e0<O.els.length∧o0+n≤O.sz∧o.els=[cs]∧cs.length=n∧mtL hv ids ρ cs (((O.els.getD e0 []).drop o0).take n)
def remH (h:Hp):List (Nat×Plc)→Hp
 | []=>h
 | (_,.whole id)::r=>upd (remH h r) id none
 | (_,.sub _ _ _ _)::r=>remH h r
def putH1 (h0:Hp) (ρ:Nat→Option Plc) (h:Hp) (cid:Nat) (o:Ob):Hp :=
 match ρ cid with
 | some (.whole id)=>upd h id (some (renOb ρ o))
 | some (.sub id e0 o0 _)=>match h0 id with
  | some O=>upd h id (some ⟨O.sz,O.els.set e0 (splice (O.els.getD e0 []) o0 (renL ρ (o.els.getD 0 [])))⟩)
  | none=>h
 | none=>h
def putH (h0:Hp) (ρ:Nat→Option Plc) (h:Hp):List (Nat×Ob)→Hp
 | []=>h
 | (cid,o)::r=>putH1 h0 ρ (putH h0 ρ h r) cid o
theorem remH_spec {h:Hp}:∀ {pl:List (Nat×Plc)} {id:Nat} {o:Ob},remH h pl id=some o→h id=some o∧∀ c,(c,Plc.whole id) ∉ pl
 | [],_,_,ho=>⟨ho,by simp⟩
 | (c,.whole i)::r,id,o,ho=>by
  simp only[remH]at ho
  by_cases hi:id=i
  ·grind[qaj]
  ·rw[qam _ _ hi]at ho
   obtain⟨h1,h2⟩:=remH_spec ho
   grind
 | (c,.sub i a b n)::r,id,o,ho=>by
  simp only[remH]at ho
  obtain⟨h1,h2⟩:=remH_spec ho
  grind
def PutSp (h0 h:Hp) (ρ:Nat→Option Plc) (L:List (Nat×Ob)) (id:Nat) (o:Ob):Prop :=
  (∃ cid oc,(cid,oc)∈L∧((ρ cid=some (.whole id)∧o=renOb ρ oc) ∨
   (∃ e0 o0 n O,ρ cid=some (.sub id e0 o0 n)∧h0 id=some O∧o=⟨O.sz,O.els.set e0 (splice (O.els.getD e0 []) o0 (renL ρ (oc.els.getD 0 [])))⟩))) ∨
  (h id=some o∧∀ cid oc p,(cid,oc)∈L→ρ cid=some p→p.id=id→h0 id=none)
theorem putH_spec {h0 h:Hp} {ρ:Nat→Option Plc}:∀ {L:List (Nat×Ob)} {id:Nat} {o:Ob},putH h0 ρ h L id=some o→PutSp h0 h ρ L id o
 | [],_,_,ho=>.inr ⟨ho,by simp⟩
 | (c,oc)::r,id,o,ho=>by
  simp only[putH,putH1]at ho
  have rest:putH h0 ρ h r id=some o→(∀ p,ρ c=some p→p.id=id→h0 id=none)→PutSp h0 h ρ ((c,oc)::r) id o:=fun hr hc=>by
   rcases putH_spec hr with⟨cid,oc',h1,h2⟩ | ⟨h1,h2⟩
   ·exact Or.inl ⟨cid,oc',List.mem_cons_of_mem _ h1,h2⟩
   ·refine Or.inr ⟨h1,fun cid oc' p hm hp hid=>?_⟩
    grind
  cases hc:ρ c with
  | none =>
   simp_all
  | some p =>
   cases p with
   | whole i =>
    simp only[hc]at ho
    by_cases hi:id=i
    ·subst hi
     rw[qaj]at ho;injection ho with ho
     exact .inl ⟨c,oc,by simp,.inl ⟨hc,ho.symm⟩⟩
    ·rw[qam _ _ hi]at ho
     exact rest ho (fun p hp hid=>by rw[hc]at hp;injection hp with hp;subst hp;exact absurd hid.symm hi)
   | sub i e0 o0 n =>
    simp only[hc]at ho
    cases hO:h0 i with
    | none =>
     simp only[hO]at ho
     grind[Plc.id]
    | some O =>
     simp only[hO]at ho
     by_cases hi:id=i
     ·subst hi
      rw[qaj]at ho;injection ho with ho
      exact .inl ⟨c,oc,by simp,.inr ⟨e0,o0,n,O,hc,hO,ho.symm⟩⟩
     ·rw[qam _ _ hi]at ho
      exact rest ho (fun p hp hid=>by rw[hc]at hp;injection hp with hp;subst hp;exact absurd hid.symm hi)
theorem Rg.apart_of {r s:Rg} (hr:r.A.spot=none) (h:∀ p,r.has p→¬ s.has p):r.apart s:=by
 by_cases h1:r.n=0
 ·exact .inl h1
 ·by_cases h2:s.n=0
  ·exact .inr (.inl h2)
  ·by_cases h3:r.A.block=s.A.block
   ·by_cases h4:r.A.off≤s.A.off
    ·have:=h (r.A.at (s.A.off-r.A.off))
     unfold Rg.has Addr.at at this
     simp only at this
     right;grind
    ·have:=h (r.A.at 0)
     unfold Rg.has Addr.at at this
     simp only at this
     right;grind
   ·exact .inr (.inr (.inl h3))
theorem cell_spot (w:World) (p:Addr) (h:p.spot≠none):w.cell? p=none:=by
 have:p.spot.isSome=true:=by cases hp:p.spot <;> simp_all
 grind[World.cell?]
structure CallIn (s:S) (hv:Hp) (pl:List (Nat×Plc)) (args argsC:List AV) (L:List (Nat×Ob)):Prop where
 view:hv=s.h∨hv=fun _=>none
 mt:mtL hv (pl.map (·.2.id)) (plOf pl) argsC args
 nod:(pl.map (·.2.id)).Nodup
 obs:∀ x,x∈L→∃ p,plOf pl x.1=some p∧inMt1 hv s.h (pl.map (·.2.id)) (plOf pl) x.2 p
 keys:∀ x,x∈pl→(hpOf L x.1).isSome=true
 liv:∀ x,x∈pl→(s.h x.2.id).isSome=true
structure CallOut (s:S) (hv:Hp) (pl:List (Nat×Plc)) (φ:List (Nat×Nat)) (r:AV) (L':List (Nat×Ob)):Prop where
 lone:hv=(fun _=>none)∨(noA r=true∧∀ x,x∈L'→x.2.els.all noL=true)
 nod:(L'.map (·.1)).Nodup
 new:(φ.map (·.2)).Nodup
 unu:∀ x,x∈φ→x.2 ∉ s.u
 kin:∀ x,x∈L'→(plOf pl x.1).isSome=true∨(phOf φ x.1).isSome=true
 sub:∀ x,x∈pl→match x.2 with
  | .sub _ _ _ n=>∃ cs,hpOf L' x.1=some ⟨n,[cs]⟩
  | .whole _=>True
def qae (s:S) (pl:List (Nat×Plc)) (φ:List (Nat×Nat)) (dst:Option Nat) (r:AV) (L':List (Nat×Ob)):S :=
 ⟨putA s.t dst (ren (ren2 pl φ) r),putH s.h (ren2 pl φ) (remH s.h pl) L',Us.app (φ.map (·.2)) s.u⟩
end Go.Av

end
