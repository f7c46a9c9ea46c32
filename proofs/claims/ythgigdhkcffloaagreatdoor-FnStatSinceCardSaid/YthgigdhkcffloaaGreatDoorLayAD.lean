/- Lemmas for the proof, no statement of the seat; no conditions. -/
import Derived.Test.YthgigdhkcffloaaGreatDoorLayAC
import Derived.LoopNIn
import Derived.OrdersIn
import Derived.TacticsIn
import Derived.RangeFuncLeaves
import Derived.RangeFuncRecord
set_option linter.unusedSimpArgs false
set_option linter.unusedVariables false
set_option linter.unnecessarySimpa false
set_option maxRecDepth 100000
section
namespace Go.Av
open Go.RowKit
section
variable {P:Program} {w w':World} {Z:Addr→Prop} {γ:Gm} {c:Cx} {s:S} {a:Act} {hv:Hp} {pl:List (Nat×Plc)} {args argsC:List AV} {L:List (Nat×Ob)}
theorem nodup_id:∀ {pl:List (Nat×Plc)},(pl.map (·.2.id)).Nodup→∀ {x y:Nat×Plc},x∈pl→y∈pl→x.2.id=y.2.id→x=y
 | [],_,_,_,hx,_,_=>by grind
 | z::r,hn,x,y,hx,hy,he=>by
  simp only[List.map_cons,List.nodup_cons]at hn
  simp only[List.mem_cons]at hx hy
  rcases hx with rfl | hx
  ·grind
  ·rcases hy with rfl | hy
   ·grind
   ·exact nodup_id hn.2 hx hy he
theorem CallIn.hvh (hin:CallIn s hv pl args argsC L) {id:Nat} {o:Ob} (h:hv id=some o):s.h id=some o:=by
 rcases hin.view with e | e
 all_goals grind
theorem CallIn.hhv (hin:CallIn s hv pl args argsC L) (hs:SRel c s Z γ a w):HRel w Z γ hv :=
 ⟨fun id o h=>hs.hp.obj id o (hin.hvh h),fun i j o1 o2 s1 s2 hne h1 h2=>hs.hp.dis i j o1 o2 s1 s2 hne (hin.hvh h1) (hin.hvh h2),fun i o r h=>hs.hp.zon i o r (hin.hvh h),hs.hp.zlt,hs.hp.gl⟩
structure Lies (s:S) (γ:Gm) (pl:List (Nat×Plc)) (cid:Nat) (o:Ob) (p:Plc) (O:Ob) (r rc:Rg):Prop where
 plc:plOf pl cid=some p
 h:s.h p.id=some O
 g:γ p.id=some r
 gc:gmC γ (plOf pl) cid=some rc
 sp:rc.A.spot=none
 sub:∀ q,rc.has q→r.has q
 osz:rc.sz=o.sz
theorem sub_has {r:Rg} {e0 o0 n len sz:Nat} (hsp:r.A.spot=none) (he:e0<len) (ho:o0+n≤sz) (hf:len * sz≤r.n) (q:Addr) (hq:(⟨r.A.at (e0 * sz+o0),n,n⟩:Rg).has q):r.has q:=by
 obtain⟨h1,h2,h3,h4⟩:=hq
 simp only[Addr.at]at h1 h2 h3
 have:(e0+1) * sz≤len * sz:=Nat.mul_le_mul_right _ he
 rw[Nat.add_mul]at this
 exact⟨h1,by omega,by omega,h4⟩
theorem CallIn.lies (hin:CallIn s hv pl args argsC L) (hs:SRel c s Z γ a w) {cid:Nat} {o:Ob} (ho:(cid,o)∈L):∃ p O r rc,Lies s γ pl cid o p O r rc:=by
 obtain⟨p,hp,hm⟩:=hin.obs _ ho
 cases p with
 | whole id =>
  obtain⟨O,hO,hsz,_⟩:=hm
  obtain⟨r,hr,hor⟩:=hs.hp.obj id O hO
  exact⟨_,O,r,r,hp,hO,hr,by grind[gmC],hor.spot,fun _ h=>h,hor.sz.trans hsz⟩
 | sub id e0 o0 n =>
  obtain⟨O,cs,hO,hn,he,hb,_⟩:=hm
  obtain⟨r,hr,hor⟩:=hs.hp.obj id O hO
  refine⟨_,O,r,⟨r.A.at (e0 * r.sz+o0),n,n⟩,hp,hO,hr,by grind[gmC],rfl,fun q hq=>?_,hn⟩
  rw[hor.sz]at hq
  exact sub_has hor.spot he hb hor.fit q hq
theorem CallIn.heap (hin:CallIn s hv pl args argsC L) (hs:SRel c s Z γ a w):HRel w (zC Z γ hv (pl.map (·.2.id))) (gmC γ (plOf pl)) (hpOf L):=by
 have hhv:=hin.hhv hs
 refine⟨fun cid o ho=>?_,fun i j o1 o2 s1 s2 hne h1 h2 g1 g2=>?_,fun cid o r ho hr q hq hz=>?_,fun q hz=>?_,hs.hp.gl.world (fun b hb=>.inl hb) (fun p _=>rfl)⟩
 ·obtain⟨p,hp,hm⟩:=hin.obs _ (qbl ho)
  simp only at hp hm
  cases p with
  | whole id =>
   obtain⟨O,hO,hsz,hrow⟩:=hm
   obtain⟨r,hr,hor⟩:=hs.hp.obj id O hO
   refine⟨r,by grind[gmC],hor.spot,hor.sz.trans hsz,?_,?_,hor.live,?_,fun h1 h2 k=>hor.pln (by omega) h2 k⟩
   ·rcases hrow with(⟨h1,_⟩ | h1) | ⟨cs,ds,h1,h2,_⟩
    ·rw[h1,← hsz];exact hor.fit
    ·rw[(mtRs_at h1).1,← hsz];exact hor.fit
    ·have:=hor.fit;grind
   ·rcases hrow with(⟨h1,_⟩ | h1) | ⟨cs,ds,h1,h2,h3⟩
    ·rw[h1,← hsz];exact hor.len
    ·intro e he
     obtain⟨g1,g2⟩:=mtRs_at h1
     rw[qbf (g2 e he),hor.len e (by omega),hsz]
    ·intro e he
     rw[h1]at he ⊢
     have:e=0:=by grind
     subst this
     have h4:=hor.len 0 (by grind)
     grind[qbf]
   ·intro e j he hj
    rcases hrow with(⟨h1,h2⟩ | h1) | ⟨cs,ds,h1,h2,h3⟩
    rotate_left
    ·obtain⟨g1,g2⟩:=mtRs_at h1
     have h3:=g2 e he
     obtain⟨v,hv',hr'⟩:=hor.cell e j (by omega) (by omega)
     exact⟨v,by grind,mtA_rel hhv _ _ _ (mtL_getD j h3 (by rw[qbf h3,hor.len e (by omega),hsz];omega)) hr'⟩
    rotate_left
    ·rw[h1]at he ⊢
     obtain⟨v,hv',hr'⟩:=hor.cell e j he (by omega)
     refine⟨v,by grind,(hr'.closed (clL_getD _ _ ?_)).world (fun _ h=>.inl h) fun _ _=>rfl⟩
     rw[h1]at h2
     exact List.all_eq_true.1 h2 _ (getD_mem _ _ he)
    ·rw[h1]at he ⊢
     have:e=0:=by grind
     subst this
     simp only[List.getD_cons_zero]
     have hl:=hor.len 0 (by grind)
     rw[h2]at hl
     simp only[List.getD_cons_zero]at hl
     obtain⟨v,hv',hr'⟩:=hor.cell 0 j (by grind) (by omega)
     rw[h2]at hr'
     exact⟨v,by grind,mtA_rel hhv _ _ _ (mtL_getD j h3 (by grind[qbf])) hr'⟩
  | sub id e0 o0 n =>
   obtain⟨O,cs,hO,hn,he,hb,hcs,hcl,hmt⟩:=hm
   obtain⟨r,hr,hor⟩:=hs.hp.obj id O hO
   refine⟨⟨r.A.at (e0 * r.sz+o0),n,n⟩,by grind[gmC],rfl,hn,by grind,fun e he'=>?_,fun k hk=>?_,fun e j he' hj=>?_,fun h1 h2 k=>hor.pln (by omega) (by
     have h3:(e0+1) * O.sz≤O.els.length * O.sz:=Nat.mul_le_mul_right _ he
     have:=hor.fit
     grind) k⟩
   ·grind
   ·simp only at hk
    simp only[qai]
    rw[hor.sz]
    exact hor.live _ (by
     have:(e0+1) * O.sz≤O.els.length * O.sz:=Nat.mul_le_mul_right _ he
     have:=hor.fit
     grind)
   ·rw[hcs]at he' ⊢
    have:e=0:=by grind
    subst this
    simp only[List.getD_cons_zero,qai]
    obtain⟨v,hv',hr'⟩:=hor.cell e0 (o0+j) he (by omega)
    have hget:(((O.els.getD e0 []).drop o0).take n).getD j .top=(O.els.getD e0 []).getD (o0+j) .top:=by
     grind
    refine⟨v,by rw[← hv',hor.sz];grind,mtA_rel hhv _ _ _ (mtL_getD j hmt (by omega)) ?_⟩
    grind
 ·obtain⟨p1,O1,r1,rc1,l1⟩:=hin.lies hs (qbl h1)
  obtain⟨p2,O2,r2,rc2,l2⟩:=hin.lies hs (qbl h2)
  rw[l1.gc]at g1;injection g1 with g1;subst g1
  rw[l2.gc]at g2;injection g2 with g2;subst g2
  refine Rg.apart_of l1.sp fun q hq hq2=>?_
  have hid:p1.id≠p2.id:=fun he=>by
   have:=nodup_id hin.nod (qbx l1.plc) (qbx l2.plc) he
   grind
  exact Rg.apart_has (hs.hp.dis _ _ _ _ _ _ hid l1.h l2.h l1.g l2.g) (l1.sub q hq) (l2.sub q hq2)
 ·obtain⟨p1,O1,r1,rc1,l1⟩:=hin.lies hs (qbl ho)
  rw[l1.gc]at hr;injection hr with hr;subst hr
  rcases hz with hz | ⟨id,o2,r2,hv2,hg2,hq2,hni⟩
  ·exact hs.hp.zon _ _ _ l1.h l1.g q (l1.sub q hq) hz
  ·have hid:p1.id≠id:=fun he=>hni (List.mem_map.2 ⟨_,qbx l1.plc,he⟩)
   exact Rg.apart_has (hs.hp.dis _ _ _ _ _ _ hid l1.h (hin.hvh hv2) l1.g hg2) (l1.sub q hq) hq2
 ·rcases hz with hz | ⟨id,o2,r2,hv2,hg2,hq2,hni⟩
  ·exact hs.hp.zlt q hz
  ·obtain⟨r',hr',hor⟩:=hs.hp.obj id o2 (hin.hvh hv2)
   rw[hg2]at hr';injection hr' with hr';subst hr'
   obtain⟨q1,q2,q3,q4⟩:=hq2
   obtain⟨⟨v,hv'⟩,_⟩:=hor.live (q.off-r2.A.off) (by omega)
   have:=World.block_lt_of_cell? w _ hv'
   rw[q1];exact this
theorem CallIn.argsRel (hin:CallIn s hv pl args argsC L) (hs:SRel c s Z γ a w) {vs:Array Value} (hargs:CRel w Z γ args vs):CRel w (zC Z γ hv (pl.map (·.2.id))) (gmC γ (plOf pl)) argsC vs:=by
 have hl:=qbf hin.mt
 refine⟨by rw[hargs.1,hl],fun j hj=>?_⟩
 exact mtL_rel (hin.hhv hs) argsC args vs hin.mt (by rw[hargs.1,hl]) (fun k hk=>hargs.2 k (by omega)) j hj
theorem CallIn.foot_id (hin:CallIn s hv pl args argsC L) (hs:SRel c s Z γ a w) {q:Addr} (hq:Foot (gmC γ (plOf pl)) (hpOf L) q) :
  ¬ Z q∧∃ p cid o O r rc,(cid,o)∈L∧Lies s γ pl cid o p O r rc∧rc.has q:=by
 obtain⟨cid,o,rc,ho,hg,hh⟩:=hq
 obtain⟨p1,O1,r1,rc1,l1⟩:=hin.lies hs (qbl ho)
 rw[l1.gc]at hg;injection hg with hg;subst hg
 exact⟨fun hz=>hs.hp.zon _ _ _ l1.h l1.g q (l1.sub q hh) hz,p1,cid,o,O1,r1,rc1,qbl ho,l1,hh⟩
end
end Go.Av

end
section
namespace Go.Av
open Go.RowKit
section
variable {P:Program} {w w':World} {Z:Addr→Prop} {γ:Gm} {c:Cx} {s:S} {a:Act} {hv:Hp} {pl:List (Nat×Plc)} {args argsC:List AV} {L:List (Nat×Ob)}
theorem qcd:∀ {l:List (Nat×Ob)} {i:Nat} {o:Ob},(l.map (·.1)).Nodup→(i,o)∈l→hpOf l i=some o
 | [],_,_,_,h=>by simp at h
 | (j,o')::r,i,o,hn,h=>by
  simp only[List.map_cons,List.nodup_cons]at hn
  unfold hpOf
  simp only[List.mem_cons,Prod.mk.injEq]at h
  rcases h with⟨rfl,rfl⟩ | h
  ·simp
  ·rw[if_neg]
   ·exact qcd hn.2 h
   ·rintro rfl;exact hn.1 (List.mem_map.2 ⟨_,h,rfl⟩)
theorem ren2_new {φ:List (Nat×Nat)} {cid id:Nat} (h1:plOf pl cid=none) (h2:phOf φ cid=some id):ren2 pl φ cid=some (.whole id):=by simp[ren2,h1,h2]
theorem ren2_old {φ:List (Nat×Nat)} {cid:Nat} {p:Plc} (h1:plOf pl cid=some p):ren2 pl φ cid=some p:=by simp[ren2,h1]
theorem SRel.after (hs:SRel c s Z γ a w) (hin:CallIn s hv pl args argsC L) {w':World} {v:Value} {r:AV} {L':List (Nat×Ob)} {Zr:Addr→Prop} {γr:Gm}
  (hrv:AVRel w' Zr γr r v) (hhr:HRel w' Zr γr (hpOf L')) (hfr:Fr (Foot (gmC γ (plOf pl)) (hpOf L)) w w') (hz1:∀ p,zC Z γ hv (pl.map (·.2.id)) p→Zr p) (hz2:∀ p,Zr p→zC Z γ hv (pl.map (·.2.id)) p∨w.heap.size≤p.block)
  (hreg:∀ id o rg,hpOf L' id=some o→γr id=some rg→∀ p,rg.has p→w.heap.size≤p.block∨Foot (gmC γ (plOf pl)) (hpOf L) p) (hret:∀ id o,hpOf L id=some o→γr id=gmC γ (plOf pl) id)
  (φ:List (Nat×Nat)) (dst:Option Nat) (ho:CallOut s hv pl φ r L') (hdst:∀ k,dst=some k→k<c.n):∃ Z' γ',SRel c (qae s pl φ dst r L') Z' γ' (a.put dst v) w':=by
 let γ':Gm:=fun id=>match phInv φ id with
  | some cid=>γr cid
  | none=>γ id
 have hnoU:∀ {id:Nat},id∈s.u→phInv φ id=none:=fun {id} hu=>by
  cases hx:phInv φ id with
  | none=>rfl
  | some cid=>exact absurd hu (ho.unu _ (phInv_mem hx))
 have hgold:∀ id rg,γ id=some rg→γ' id=some rg:=fun id rg hg=>by
  show(match phInv φ id with | some cid=>γr cid | none=>γ id)=some rg
  rw[hnoU (hs.scp id rg hg)];exact hg
 have hgold':∀ id,id∈s.u→γ' id=γ id:=fun id hu=>by
  show(match phInv φ id with | some cid=>γr cid | none=>γ id)=γ id
  rw[hnoU hu]
 have hfoot:∀ q,Foot (gmC γ (plOf pl)) (hpOf L) q→¬ Z q:=fun q hq=>(hin.foot_id hs hq).1
 have hcellZ:∀ p:Addr,Z p→w'.cell? p=w.cell? p:=fun p hp=>by
  by_cases hsp:p.spot=none
  ·refine hfr.cell (hs.hp.zlt p hp) fun hF=>hfoot _ hF ?_
   have:(⟨p.block,p.off,none⟩:Addr)=p:=by cases p;simp_all
   rw[this];exact hp
  ·rw[cell_spot _ _ hsp,cell_spot _ _ hsp]
 obtain⟨Z',hzz',hz'1,hz'2,hzr⟩:∃ Z':Addr→Prop,(∀ p,Z p→Z' p)∧(∀ p,Z' p→Z p∨w.heap.size≤p.block)∧(∀ p,Z' p→Z p∨Zr p) ∧
   (∀ {G:Gm} {av:AV} {x:Value},AVRel w' Zr G av x→(av=r∨∃ id o,(id,o)∈L'∧∃ el,el∈o.els∧av∈el)→AVRel w' Z' G av x):=by
  rcases ho.lone with he | ⟨h1,h2⟩
  ·refine⟨Zr,fun p hp=>hz1 p (.inl hp),fun p hp=>?_,fun p hp=>.inr hp,fun hr _=>hr⟩
   rcases hz2 p hp with h | h
   ·rcases h with h | ⟨id,o,rg,hh,_⟩
    ·exact .inl h
    ·rw[he]at hh;cases hh
   ·exact .inr h
  ·refine⟨Z,fun _ h=>h,fun _ h=>.inl h,fun _ h=>.inl h,fun {G av x} hr hmem=>hr.anyZ ?_⟩
   rcases hmem with rfl | ⟨id,o,ho',el,hel,hav⟩
   ·exact h1
   ·have h3:=List.all_eq_true.1 (h2 _ ho') el hel
    obtain⟨j,hj,rfl⟩:=List.getElem_of_mem hav
    have:=noL_getD el j h3
    simpa [List.getD,hj]using this
 have hold:∀ {av:AV} {x:Value},AVRel w Z γ av x→AVRel w' Z' γ' av x:=fun hr=>(hr.world hzz' hcellZ).gmono hgold
 have hback:∀ cid oc,(cid,oc)∈L'→∃ p rc,ren2 pl φ cid=some p∧γr cid=some rc∧ORel w' Zr γr oc rc∧((∃ O r0,plOf pl cid=some p∧s.h p.id=some O∧γ p.id=some r0∧gmC γ (plOf pl) cid=some rc)∨(plOf pl cid=none∧∃ id,p=.whole id∧(cid,id)∈φ∧phInv φ id=some cid∧id ∉ s.u)):=by
  intro cid oc hm
  have hho:=qcd ho.nod hm
  obtain⟨rc,hrc,hor⟩:=hhr.obj cid oc hho
  cases hpl:plOf pl cid with
  | some p =>
   have hk:=hin.keys _ (qbx hpl)
   obtain⟨oL,hoL⟩:=Option.isSome_iff_exists.1 hk
   simp only at hoL
   have h1:=hret cid oL hoL
   obtain⟨p1,O1,r1,rc1,l1⟩:=hin.lies hs (qbl hoL)
   have e1:p1=p:=by have:=l1.plc;rw[hpl]at this;injection this with this;exact this.symm
   subst e1
   exact⟨p1,rc,ren2_old hpl,hrc,hor,.inl ⟨O1,r1,rfl,l1.h,l1.g,by rw[← h1];exact hrc⟩⟩
  | none =>
   have hk:=ho.kin _ hm
   simp only[hpl,Option.isSome_none,Bool.false_eq_true,false_or]at hk
   obtain⟨id,hid⟩:=Option.isSome_iff_exists.1 hk
   have hm2:=phOf_mem hid
   exact⟨.whole id,rc,ren2_new hpl hid,hrc,hor,.inr ⟨rfl,id,rfl,hm2,phInv_of ho.new hm2,ho.unu _ hm2⟩⟩
 have hplc:PlcOk γr γ' (ren2 pl φ):=by
  intro cid
  cases hpl:plOf pl cid with
  | some p =>
   rw[ren2_old hpl]
   have hk:=hin.keys _ (qbx hpl)
   obtain⟨oL,hoL⟩:=Option.isSome_iff_exists.1 hk
   simp only at hoL
   have h1:=hret cid oL hoL
   cases p with
   | whole id =>
    intro rg hg
    rw[h1]at hg
    simp only[gmC,hpl]at hg
    exact hgold _ _ hg
   | sub id e0 o0 n =>
    intro rg hg
    rw[h1]at hg
    simp only[gmC,hpl]at hg
    cases hgi:γ id with
    | none=>simp[hgi]at hg
    | some r0 =>
     simp only[hgi,Option.some.injEq]at hg
     exact⟨r0,hgold _ _ hgi,by rw[← hg]⟩
  | none =>
   cases hph:phOf φ cid with
   | none=>simp only[ren2,hpl,hph]
   | some id =>
    rw[ren2_new hpl hph]
    intro rg hg
    show(match phInv φ id with | some cid=>γr cid | none=>γ id)=some rg
    rw[phInv_of ho.new (phOf_mem hph)];exact hg
 have hkeep:∀ (q:Addr),q.block<w.heap.size→q.spot=none→¬ Foot (gmC γ (plOf pl)) (hpOf L) q→w'.cell? q=w.cell? q∧w'.frozen? q=w.frozen? q:=fun q hb hsp hF=>by
  have:(⟨q.block,q.off,none⟩:Addr)=q:=by cases q;simp_all
  exact⟨hfr.cell hb (by rw[this];exact hF),hfr.frozen hb⟩
 have hregOld:∀ id o rg,s.h id=some o→γ id=some rg→∀ q,rg.has q→q.block<w.heap.size:=fun id o rg h1 h2 q hq=>by
  obtain⟨r',hr',hor⟩:=hs.hp.obj id o h1
  rw[h2]at hr';injection hr' with hr';subst hr'
  obtain⟨q1,q2,q3,q4⟩:=hq
  obtain⟨⟨u,hu⟩,_⟩:=hor.live (q.off-rg.A.off) (by omega)
  have:=World.block_lt_of_cell? w _ hu
  rw[q1];exact this
 have hfar:∀ id o rg,s.h id=some o→γ id=some rg→(∀ cid p,plOf pl cid=some p→p.id≠id)→∀ q,rg.has q→¬ Foot (gmC γ (plOf pl)) (hpOf L) q:=fun id o rg h1 h2 hne q hq hF=>by
  obtain⟨_,p1,cid,oo,O1,r1,rc1,hm,l1,hh⟩:=hin.foot_id hs hF
  exact Rg.apart_has (hs.hp.dis _ _ _ _ _ _ (hne cid p1 l1.plc) l1.h h1 l1.g h2) (l1.sub q hh) hq
 have hspec:∀ id o,putH s.h (ren2 pl φ) (remH s.h pl) L' id=some o →
   (∃ cid oc rc,(cid,oc)∈L'∧ren2 pl φ cid=some (.whole id)∧o=renOb (ren2 pl φ) oc∧γr cid=some rc∧γ' id=some rc∧ORel w' Zr γr oc rc∧((plOf pl cid=some (.whole id))∨(plOf pl cid=none∧id ∉ s.u))) ∨
   (∃ cid oc rc e0 o0 n O rg,(cid,oc)∈L'∧plOf pl cid=some (.sub id e0 o0 n)∧s.h id=some O∧γ id=some rg∧γ' id=some rg∧γr cid=some rc∧rc=⟨rg.A.at (e0 * rg.sz+o0),n,n⟩∧ORel w' Zr γr oc rc∧e0<O.els.length∧o0+n≤O.sz ∧
    o=⟨O.sz,O.els.set e0 (splice (O.els.getD e0 []) o0 (renL (ren2 pl φ) (oc.els.getD 0 [])))⟩) ∨
   (∃ rg,s.h id=some o∧γ id=some rg∧γ' id=some rg∧∀ cid p,plOf pl cid=some p→p.id≠id):=by
  intro id o hio
  rcases putH_spec hio with⟨cid,oc,hm,h1⟩ | ⟨h1,h2⟩
  ·obtain⟨p,rc,hp,hrc,hor,hcase⟩:=hback cid oc hm
   rcases h1 with⟨h3,h4⟩ | ⟨e0,o0,n,O,h3,h4,h5⟩
   ·rw[h3]at hp;injection hp with hp;subst hp
    rcases hcase with⟨O,r0,c1,c2,c3,c4⟩ | ⟨c1,id',c2,c3,c4,c5⟩
    ·refine .inl ⟨cid,oc,rc,hm,h3,h4,hrc,?_,hor,.inl c1⟩
     simp only[gmC,c1]at c4
     exact hgold _ _ c4
    ·injection c2 with c2;subst c2
     refine .inl ⟨cid,oc,rc,hm,h3,h4,hrc,?_,hor,.inr ⟨c1,c5⟩⟩
     show(match phInv φ id with | some cid=>γr cid | none=>γ id)=some rc
     rw[c4];exact hrc
   ·rw[h3]at hp;injection hp with hp;subst hp
    rcases hcase with⟨O',r0,c1,c2,c3,c4⟩ | ⟨c1,id',c2,_⟩
    ·simp only[Plc.id]at c2 c3
     rw[h4]at c2;injection c2 with c2;subst c2
     have hk:=hin.keys _ (qbx c1)
     obtain⟨oL,hoL⟩:=Option.isSome_iff_exists.1 hk
     simp only at hoL
     obtain⟨p',hp',hmt⟩:=hin.obs _ (qbl hoL)
     simp only at hp' hmt
     rw[c1]at hp';injection hp' with hp';subst hp'
     obtain⟨O2,cs,g1,g2,g3,g4,_⟩:=hmt
     rw[h4]at g1;injection g1 with g1;subst g1
     simp only[gmC,c1,c3,Option.some.injEq]at c4
     exact .inr (.inl ⟨cid,oc,rc,e0,o0,n,O,r0,hm,c1,h4,c3,hgold _ _ c3,hrc,c4.symm,hor,g3,g4,h5⟩)
    ·cases c2
  ·obtain⟨h3,h4⟩:=remH_spec h1
   obtain⟨rg,hrg,_⟩:=hs.hp.obj id o h3
   refine .inr (.inr ⟨rg,h3,hrg,hgold _ _ hrg,fun cid p hpl hid=>?_⟩)
   subst hid
   cases p with
   | whole i=>exact h4 cid (qbx hpl)
   | sub i e0 o0 n =>
    obtain⟨cs,hcs⟩:=ho.sub _ (qbx hpl)
    have:=h2 cid _ (.sub i e0 o0 n) (qbl hcs) (ren2_old hpl) rfl
    rw[h3]at this;cases this
 have hwhere:∀ cid oc rc,(cid,oc)∈L'→γr cid=some rc→∀ q,rc.has q→w.heap.size≤q.block∨Foot (gmC γ (plOf pl)) (hpOf L) q:=fun cid oc rc hm hg q hq =>
  hreg cid oc rc (qcd ho.nod hm) hg q hq
 have hap1:∀ (rc rg:Rg) cid oc id o,(cid,oc)∈L'→γr cid=some rc→rc.A.spot=none→s.h id=some o→γ id=some rg→(∀ cid' p,plOf pl cid'=some p→p.id≠id)→rc.apart rg:=fun rc rg cid oc id o hm hg hsp h1 h2 hne =>
  Rg.apart_of hsp fun q hq hq2=>by
   rcases hwhere cid oc rc hm hg q hq with h | h
   ·have:=hregOld id o rg h1 h2 q hq2;omega
   ·exact hfar id o rg h1 h2 hne q hq2 h
 have hap2:∀ (rc rg:Rg) cid oc cid2 oc2 id O e0 o0 n,(cid,oc)∈L'→γr cid=some rc→rc.A.spot=none→(cid2,oc2)∈L'→plOf pl cid2=some (.sub id e0 o0 n)→s.h id=some O→γ id=some rg→γr cid2=some ⟨rg.A.at (e0 * rg.sz+o0),n,n⟩→cid≠cid2→(∀ p,plOf pl cid=some p→p.id≠id)→rc.apart rg :=
  fun rc rg cid oc cid2 oc2 id O e0 o0 n hm hg hsp hm2 hpl2 hO hg2 hgr2 hne hpne =>
  Rg.apart_of hsp fun q hq hq2=>by
   rcases hwhere cid oc rc hm hg q hq with h | h
   ·have:=hregOld id O rg hO hg2 q hq2;omega
   ·obtain⟨_,p1,cid3,o3,O3,r3,rc3,hm3,l3,hh3⟩:=hin.foot_id hs h
    by_cases hid:p1.id=id
    ·have:=nodup_id hin.nod (qbx l3.plc) (qbx hpl2) hid
     injection this with e1 e2
     subst e1
     have e3:=l3.gc
     rw[e2]at l3
     simp only[gmC,hpl2,hg2,Option.some.injEq]at e3
     have:=hhr.dis cid cid3 oc oc2 rc _ hne (qcd ho.nod hm) (qcd ho.nod hm2) hg hgr2
     rw[← e3]at hh3
     exact Rg.apart_has this hq hh3
    ·exact Rg.apart_has (hs.hp.dis _ _ _ _ _ _ hid l3.h hO l3.g hg2) (l3.sub q hh3) hq2
 have hmapget:∀ (ρ:Nat→Option Plc) (els:List (List AV)) (e:Nat),(els.map (renL ρ)).getD e []=renL ρ (els.getD e []):=fun ρ els e=>by
  simp only[List.getD_eq_getElem?_getD,List.getElem?_map]
  cases els[e]? <;> simp[renL]
 have hsub2:∀ cid oc cid2 id O rg e0 o0 n,(cid,oc)∈L'→cid=cid2→plOf pl cid2=some (.sub id e0 o0 n)→s.h id=some O→γ id=some rg→∀ q,rg.has q→¬ (⟨rg.A.at (e0 * rg.sz+o0),n,n⟩:Rg).has q→¬ Foot (gmC γ (plOf pl)) (hpOf L) q :=
  fun cid oc cid2 id O rg e0 o0 n hm he hpl2 hO hg2 q hq hnq hF=>by
   obtain⟨_,p1,cid3,o3,O3,r3,rc3,hm3,l3,hh3⟩:=hin.foot_id hs hF
   by_cases hid:p1.id=id
   ·have:=nodup_id hin.nod (qbx l3.plc) (qbx hpl2) hid
    injection this with e1 e2
    have e3:=l3.gc
    rw[e1]at e3
    simp only[gmC,hpl2,hg2,Option.some.injEq]at e3
    rw[← e3]at hh3
    exact hnq hh3
   ·exact Rg.apart_has (hs.hp.dis _ _ _ _ _ _ hid l3.h hO l3.g hg2) (l3.sub q hh3) hq
 refine⟨Z',γ',?_,by cases dst <;> simp[Act.put,hs.siz],by cases dst <;> exact hs.dfr.fr hfr,⟨fun id o hio=>?_,fun i j o1 o2 s1 s2 hne h1 h2 g1 g2=>?_,fun id o rg hio hg q hq hz=>?_,fun q hz=>?_,hs.hp.gl.world hzz' hcellZ⟩,?_,fun id o rg hio hg q hq=>?_,fun p hp=>hzz' p (hs.z0 p hp),fun p hp=>?_,fun id rg hg=>?_,hs.in0,fun id o hid=>?_⟩
 ·exact TRel.putO (fun i=>hold (hs.tmp i)) (fun k hk=>by rw[hs.siz];exact hdst k hk) ((hzr hrv (.inl rfl)).ren hplc)
 ·rcases hspec id o hio with⟨cid,oc,rc,hm,h1,rfl,h3,h4,hor,_⟩ | ⟨cid,oc,rc,e0,o0,n,O,rg,hm,hpl2,hO,hg2,hg3,hrc,hrce,hor,he,hb,rfl⟩ | ⟨rg,h1,h2,h3,h4⟩
  ·refine⟨rc,h4,hor.spot,hor.sz,by simpa [renOb]using hor.fit,fun e he=>?_,hor.live,fun e j he hj=>?_,hor.pln⟩
   ·simp only[renOb,List.length_map]at he ⊢
    rw[hmapget,qbi];exact hor.len e he
   ·simp only[renOb,List.length_map]at he hj ⊢
    obtain⟨u,hu,hr⟩:=hor.cell e j he hj
    refine⟨u,hu,?_⟩
    rw[hmapget,renL_getD]
    refine(hzr hr (.inr ⟨cid,oc,hm,oc.els.getD e [],getD_mem _ _ he,?_⟩)).ren hplc
    exact getD_mem _ _ (by rw[hor.len e he];exact hj)
  ·obtain⟨r0,hr0,hor0⟩:=hs.hp.obj id O hO
   rw[hg2]at hr0;injection hr0 with hr0;subst hr0
   subst hrce
   obtain⟨cs,hcs⟩:=ho.sub _ (qbx hpl2)
   have hcs2:=qcd ho.nod hm
   simp only at hcs
   rw[hcs2]at hcs;injection hcs with hcs;subst hcs
   have hcl:cs.length=n:=by have:=hor.len 0 (by simp);simpa using this
   have hel:=hor0.len e0 he
   have hele:e0 * O.sz+O.sz≤rg.n:=by
    have:(e0+1) * O.sz≤O.els.length * O.sz:=Nat.mul_le_mul_right _ he
    have:=hor0.fit
    rw[Nat.add_mul]at *;omega
   have hout:∀ k,k<rg.n→¬ (e0 * O.sz+o0≤k∧k<e0 * O.sz+o0+n)→w'.cell? (rg.A.at k)=w.cell? (rg.A.at k)∧w'.frozen? (rg.A.at k)=w.frozen? (rg.A.at k):=fun k hk hnk=>by
    refine hkeep _ (hregOld id O rg hO hg2 _ (Rg.has_at hk)) rfl (hsub2 cid _ cid id O rg e0 o0 n hm rfl hpl2 hO hg2 _ (Rg.has_at hk) ?_)
    rintro⟨_,q2,q3,_⟩
    simp only[Addr.at]at q2 q3
    rw[hor0.sz]at q2 q3
    exact hnk ⟨by omega,by omega⟩
   refine⟨rg,hg3,hor0.spot,hor0.sz,by simpa using hor0.fit,fun e he'=>?_,fun k hk=>?_,fun e j he' hj=>?_,fun g1 g2 k=>(hfr.frozen (p:=⟨rg.A.block,k,none⟩) (hregOld id O rg hO hg2 (rg.A.at 0) (Rg.has_at g2))).trans (hor0.pln g1 g2 k)⟩
   ·simp only[List.length_set]at he'
    by_cases hee:e=e0
    ·subst hee
     simp only[List.getD,List.getElem?_set,he',if_true,Option.getD_some]
     have hsp:o0+(renL (ren2 pl φ) ([cs].getD 0 [])).length≤(O.els.getD e []).length:=by
      rw[List.getD_cons_zero,qbi,hcl,hel];exact hb
     have:=splice_length hsp
     simp only[List.getD]at this hel ⊢
     rw[this];exact hel
    ·have:=hor0.len e he'
     simpa [List.getD,List.getElem?_set_ne (Ne.symm hee)]using this
   ·by_cases hk2:e0 * O.sz+o0≤k∧k<e0 * O.sz+o0+n
    ·have:=hor.live (k-(e0 * O.sz+o0)) (by simp only;omega)
     simp only[qai]at this
     rw[hor0.sz,show e0 * O.sz+o0+(k-(e0 * O.sz+o0))=k by omega]at this
     exact this
    ·obtain⟨⟨u,hu⟩,hf⟩:=hor0.live k hk
     obtain⟨h5,h6⟩:=hout k hk hk2
     exact⟨⟨u,h5.trans hu⟩,h6.trans hf⟩
   ·simp only[List.length_set]at he'
    simp only at hj
    have hsplen:o0+(renL (ren2 pl φ) cs).length≤(O.els.getD e0 []).length:=by rw[qbi,hcl,hel];exact hb
    by_cases hee:e=e0∧o0≤j∧j<o0+n
    ·obtain⟨rfl,hj1,hj2⟩:=hee
     have hg4:((O.els.set e (splice (O.els.getD e []) o0 (renL (ren2 pl φ) cs))).getD e [])=splice (O.els.getD e []) o0 (renL (ren2 pl φ) cs):=by simp[List.getD,he']
     simp only[List.getD_cons_zero,hg4]
     rw[splice_getD hsplen,if_pos (by rw[qbi,hcl];omega),renL_getD]
     obtain⟨u,hu,hr⟩:=hor.cell 0 (j-o0) (by simp) (by simp only;omega)
     simp only[Nat.zero_mul,Nat.zero_add,qai,List.getD_cons_zero]at hu hr
     refine⟨u,?_,(hzr hr (.inr ⟨cid,_,hm,cs,by simp,getD_mem _ _ (by omega)⟩)).ren hplc⟩
     rw[← hu,hor0.sz];congr 2;omega
    ·obtain⟨u,hu,hr⟩:=hor0.cell e j he' hj
     have hlt:e * O.sz+j<rg.n:=row_lt he' hj hor0.fit
     have h5:=(hout (e * O.sz+j) hlt (fun hin2=>hee (by
      have:=row_inj (e:=e) (e':=e0) (j:=j) (j':=e * O.sz+j-e0 * O.sz) hj (by omega) (by omega)
      exact⟨this.1,by omega,by omega⟩))).1
     refine⟨u,h5.trans hu,?_⟩
     have hg5:(((O.els.set e0 (splice (O.els.getD e0 []) o0 (renL (ren2 pl φ) cs))).getD e []).getD j .top)=((O.els.getD e []).getD j .top):=by
      by_cases hee2:e=e0
      ·subst hee2
       have hg4:((O.els.set e (splice (O.els.getD e []) o0 (renL (ren2 pl φ) cs))).getD e [])=splice (O.els.getD e []) o0 (renL (ren2 pl φ) cs):=by simp[List.getD,he']
       rw[hg4,splice_getD hsplen,if_neg (by rw[qbi,hcl];intro h;exact hee ⟨rfl,h⟩)]
      ·simp[List.getD,List.getElem?_set_ne (Ne.symm hee2)]
     simp only[List.getD_cons_zero,hg5]
     exact hold hr
  ·obtain⟨r0,hr0,hor0⟩:=hs.hp.obj id o h1
   rw[h2]at hr0;injection hr0 with hr0;subst hr0
   have hk:∀ k,k<rg.n→w'.cell? (rg.A.at k)=w.cell? (rg.A.at k)∧w'.frozen? (rg.A.at k)=w.frozen? (rg.A.at k):=fun k hk =>
    hkeep _ (hregOld id o rg h1 h2 _ (Rg.has_at hk)) rfl (hfar id o rg h1 h2 h4 _ (Rg.has_at hk))
   refine⟨rg,h3,hor0.spot,hor0.sz,hor0.fit,hor0.len,fun k hk'=>?_,fun e j he hj=>?_,fun g1 g2 k=>(hfr.frozen (p:=⟨rg.A.block,k,none⟩) (hregOld id o rg h1 h2 (rg.A.at 0) (Rg.has_at g2))).trans (hor0.pln g1 g2 k)⟩
   ·obtain⟨⟨u,hu⟩,hf⟩:=hor0.live k hk'
    exact⟨⟨u,(hk k hk').1.trans hu⟩,(hk k hk').2.trans hf⟩
   ·obtain⟨u,hu,hr⟩:=hor0.cell e j he hj
    exact⟨u,(hk _ (row_lt he hj hor0.fit)).1.trans hu,hold hr⟩
 ·rcases hspec i o1 h1 with⟨c1,oc1,rc1,m1,a1,_,b1,d1,or1,k1⟩ | ⟨c1,oc1,rc1,e1,p1,n1,O1,rg1,m1,l1,hO1,hg1,hd1,b1,be1,or1,_,_,_⟩ | ⟨rg1,a1,b1,d1,k1⟩
  ·rw[d1]at g1;injection g1 with g1;subst g1
   rcases hspec j o2 h2 with⟨c2,oc2,rc2,m2,a2,_,b2,d2,or2,k2⟩ | ⟨c2,oc2,rc2,e2,p2,n2,O2,rg2,m2,l2,hO2,hg2,hd2,b2,be2,or2,_,_,_⟩ | ⟨rg2,a2,b2,d2,k2⟩
   ·rw[d2]at g2;injection g2 with g2;subst g2
    refine hhr.dis c1 c2 oc1 oc2 _ _ (fun e=>?_) (qcd ho.nod m1) (qcd ho.nod m2) b1 b2
    subst e;rw[a1]at a2;injection a2 with a2;injection a2 with a2;exact hne a2
   ·rw[hd2]at g2;injection g2 with g2;subst g2
    refine hap2 _ _ c1 oc1 c2 oc2 j O2 e2 p2 n2 m1 b1 or1.spot m2 l2 hO2 hg2 (by rw[← be2];exact b2) (fun e=>?_) (fun p hp hid=>?_)
    ·subst e;rw[ren2_old l2]at a1;cases a1
    ·rw[ren2_old hp]at a1;injection a1 with a1;subst a1;exact hne hid
   ·rw[d2]at g2;injection g2 with g2;subst g2
    exact hap1 _ _ c1 oc1 j o2 m1 b1 or1.spot a2 b2 k2
  ·rw[hd1]at g1;injection g1 with g1;subst g1
   rcases hspec j o2 h2 with⟨c2,oc2,rc2,m2,a2,_,b2,d2,or2,k2⟩ | ⟨c2,oc2,rc2,e2,p2,n2,O2,rg2,m2,l2,hO2,hg2,hd2,b2,be2,or2,_,_,_⟩ | ⟨rg2,a2,b2,d2,k2⟩
   ·rw[d2]at g2;injection g2 with g2;subst g2
    refine Rg.apart_comm (hap2 _ _ c2 oc2 c1 oc1 i O1 e1 p1 n1 m2 b2 or2.spot m1 l1 hO1 hg1 (by rw[← be1];exact b1) (fun e=>?_) (fun p hp hid=>?_))
    ·subst e;rw[ren2_old l1]at a2;cases a2
    ·rw[ren2_old hp]at a2;injection a2 with a2;subst a2;exact hne hid.symm
   ·rw[hd2]at g2;injection g2 with g2;subst g2
    exact hs.hp.dis _ _ _ _ _ _ hne hO1 hO2 hg1 hg2
   ·rw[d2]at g2;injection g2 with g2;subst g2
    exact hs.hp.dis _ _ _ _ _ _ hne hO1 a2 hg1 b2
  ·rw[d1]at g1;injection g1 with g1;subst g1
   rcases hspec j o2 h2 with⟨c2,oc2,rc2,m2,a2,_,b2,d2,or2,k2⟩ | ⟨c2,oc2,rc2,e2,p2,n2,O2,rg2,m2,l2,hO2,hg2,hd2,b2,be2,or2,_,_,_⟩ | ⟨rg2,a2,b2,d2,k2⟩
   ·rw[d2]at g2;injection g2 with g2;subst g2
    exact Rg.apart_comm (hap1 _ _ c2 oc2 i o1 m2 b2 or2.spot a1 b1 k1)
   ·rw[hd2]at g2;injection g2 with g2;subst g2
    exact hs.hp.dis _ _ _ _ _ _ hne a1 hO2 b1 hg2
   ·rw[d2]at g2;injection g2 with g2;subst g2
    exact hs.hp.dis _ _ _ _ _ _ hne a1 a2 b1 b2
 ·rcases hspec id o hio with⟨cid,oc,rc,hm,h1,_,h3,h4,hor,_⟩ | ⟨cid,oc,rc,e0,o0,n,O,rg2,hm,hpl2,hO,hg2,hg3,_⟩ | ⟨rg2,h1,h2,h3,h4⟩
  ·rw[h4]at hg;injection hg with hg;subst hg
   rcases hz'2 q hz with h | h
   ·rcases hwhere cid oc rc hm h3 q hq with h5 | h5
    ·have:=hs.hp.zlt q h;omega
    ·exact hfoot q h5 h
   ·exact hhr.zon cid oc rc (qcd ho.nod hm) h3 q hq h
  ·rw[hg3]at hg;injection hg with hg;subst hg
   rcases hz'1 q hz with h | h
   ·exact hs.hp.zon id O _ hO hg2 q hq h
   ·have:=hregOld id O _ hO hg2 q hq;omega
  ·rw[h3]at hg;injection hg with hg;subst hg
   rcases hz'1 q hz with h | h
   ·exact hs.hp.zon id o _ h1 h2 q hq h
   ·have:=hregOld id o _ h1 h2 q hq;omega
 ·rcases hz'2 q hz with h | h
  ·exact Nat.lt_of_lt_of_le (hs.hp.zlt q h) hfr.size
  ·exact hhr.zlt q h
 ·refine hs.fr.trans hfr (fun _ _ h=>h) (fun i o hi hF=>?_)
  obtain⟨_,p1,cid,oo,O1,r1,rc1,hm,l1,hh⟩:=hin.foot_id hs hF
  rcases hs.own _ _ _ l1.h l1.g _ (l1.sub _ hh)with h | h
  ·simp only at h;omega
  ·exact h
 ·rcases hspec id o hio with⟨cid,oc,rc,hm,h1,_,h3,h4,hor,_⟩ | ⟨cid,oc,rc,e0,o0,n,O,rg2,hm,hpl2,hO,hg2,hg3,_⟩ | ⟨rg2,h1,h2,h3,h4⟩
  ·rw[h4]at hg;injection hg with hg;subst hg
   rcases hwhere cid oc rc hm h3 q hq with h5 | h5
   ·left;have:=hs.fr.size;omega
   ·obtain⟨_,p1,cid,oo,O1,r1,rc1,hm,l1,hh⟩:=hin.foot_id hs h5
    exact hs.own _ _ _ l1.h l1.g _ (l1.sub _ hh)
  ·rw[hg3]at hg;injection hg with hg;subst hg
   exact hs.own id O _ hO hg2 q hq
  ·rw[h3]at hg;injection hg with hg;subst hg
   exact hs.own id o _ h1 h2 q hq
 ·rcases hz'1 p hp with h | h
  ·exact hs.z1 p h
  ·right;have:=hs.fr.size;omega
 ·simp only[qae]
  cases hx:phInv φ id with
  | some cid=>left;exact List.mem_map.2 ⟨_,phInv_mem hx,rfl⟩
  | none =>
   right
   have:γ' id=γ id:=by show(match phInv φ id with | some cid=>γr cid | none=>γ id)=γ id;rw[hx]
   rw[this]at hg
   exact hs.scp id rg hg
 ·obtain⟨rg,hrg⟩:=hs.in0 id o hid
  have h1:=hs.inp id o hid
  have hu:=hs.scp id rg (h1.trans hrg)
  rw[hgold' id hu];exact h1
theorem SRel.call (hs:SRel c s Z γ a w) (hin:CallIn s hv pl args argsC L) {f:Nat} {R:AV→List (Nat×Ob)→Prop} (hC:ACall P f argsC L R) {vs:Array Value} (hargs:CRel w Z γ args vs) :
  CallsX P f vs w fun e w'=>∃ v r L',e=.returned v∧R r L'∧∀ φ dst,CallOut s hv pl φ r L'→(∀ k,dst=some k→k<c.n)→∃ Z' γ',SRel c (qae s pl φ dst r L') Z' γ' (a.put dst v) w':=by
 have hZc:=hin.heap hs
 refine(hC w (zC Z γ hv (pl.map (·.2.id))) (gmC γ (plOf pl)) vs (hin.argsRel hs hargs) hZc (fun id r hg=>?_)).mono ?_
 ·simp only[gmC]at hg
  cases hp:plOf pl id with
  | none=>simp[hp]at hg
  | some p=>exact hin.keys _ (qbx hp)
 rintro e w' ⟨v,r,L',Zr,γr,rfl,hR,hrv,hhr,hfr,hz1,hz2,hreg,hret⟩
 exact⟨v,r,L',rfl,hR,fun φ dst ho hdst=>hs.after hin hrv hhr hfr hz1 hz2 hreg hret φ dst ho hdst⟩
end
end Go.Av

end
section
namespace Go.Av
open Go.RowKit
structure Env where
 n:Nat
 ins:List Nat
def fen (ρ:Option Nat):Fence:={ Fence.wide with round:=ρ }
def noRng:Code→Bool
 | .rangeFunc _ _ _ _=>false
 | .seq a b=>noRng a && noRng b
 | .cond _ a b=>noRng a && noRng b
 | .block _ a=>noRng a
 | .loop a=>noRng a
 | .scope a=>noRng a
 | _=>true
def VC (P:Program) (E:Env) (c:Code) (s:S) (Q:Exit→S→Prop):Prop :=
 ∀ (ρ:Option Nat) (n:Nat) (cx:Cx) (Z:Addr→Prop) (γ:Gm) (a:Act) (w:World),(ρ=none∨noRng c=true)→cx.n=E.n→(∀ id o,cx.h0 id=some o→id∈E.ins)→SRel cx s Z γ a w →
  c.wpIn (fen ρ) n P (fun e a' w'=>∃ s' Z' γ',SRel cx s' Z' γ' a' w'∧Q e s') a w
def thenQ (N:S→Prop) (Q:Exit→S→Prop):Exit→S→Prop
 | .normal,s=>N s
 | e,s=>Q e s
def qbw (id:Nat) (Q:Exit→S→Prop):Exit→S→Prop
 | .exit id',s=>if id'=id then Q .normal s else Q (.exit id') s
 | e,s=>Q e s
section
variable {P:Program} {E:Env} {s:S} {Q:Exit→S→Prop}
theorem VC.mono {c:Code} {Q':Exit→S→Prop} (h:VC P E c s Q) (hq:∀ e s,Q e s→Q' e s):VC P E c s Q' :=
 fun ρ n cx Z γ a w hr hn hi hs=>wpIn_mono (h ρ n cx Z γ a w hr hn hi hs) fun e a w ⟨s',Z',γ',h1,h2⟩=>⟨s',Z',γ',h1,hq _ _ h2⟩
theorem vc_skip (h:Q .normal s):VC P E .skip s Q:=fun ρ n cx Z γ a w _ _ _ hs=>wpIn_skip ⟨s,Z,γ,hs,h⟩
theorem vc_label {l:Nat} (h:Q .normal s):VC P E (.label l) s Q:=fun ρ n cx Z γ a w _ _ _ hs=>wpIn_label ⟨s,Z,γ,hs,h⟩
theorem vc_exit {id:Nat} (h:Q (.exit id) s):VC P E (.exit id) s Q:=fun ρ n cx Z γ a w _ _ _ hs=>wpIn_exit ⟨s,Z,γ,hs,h⟩
theorem vc_ret (h:Q .ret s):VC P E .ret s Q:=fun ρ n cx Z γ a w _ _ _ hs=>wpIn_ret ⟨s,Z,γ,hs,h⟩
theorem rng2 {ρ:Option Nat} {x y:Bool} (h:ρ=none∨(x && y)=true):(ρ=none∨x=true)∧(ρ=none∨y=true):=by
 grind
theorem vc_seq {x y:Code} (h:VC P E x s (thenQ (fun s'=>VC P E y s' Q) Q)):VC P E (.seq x y) s Q :=
 fun ρ n cx Z γ a w hr hn hi hs=>wpIn_seq (wpIn_mono (h ρ n cx Z γ a w (rng2 hr).1 hn hi hs) fun e a w ⟨s',Z',γ',h1,h2⟩=>by
  cases e with
  | normal=>exact h2 ρ n cx Z' γ' a w (rng2 hr).2 hn hi h1
  | _=>exact⟨s',Z',γ',h1,h2⟩)
theorem vc_block {id:Nat} {x:Code} (h:VC P E x s (qbw id Q)):VC P E (.block id x) s Q :=
 fun ρ n cx Z γ a w hr hn hi hs=>wpIn_block (wpIn_mono (h ρ n cx Z γ a w hr hn hi hs) fun e a w ⟨s',Z',γ',h1,h2⟩=>by
  cases e with
  | exit id' =>
   simp only[qbw]at h2
   show if id'=id then _ else _
   grind
  | _=>exact⟨s',Z',γ',h1,h2⟩)
theorem vc_cond {c:Operand} {x y:Code} {b:Bool} (hc:opd s.t c=.bool b) (ht:b=true→VC P E x s Q) (hf:b=false→VC P E y s Q):VC P E (.cond c x y) s Q :=
 fun ρ n cx Z γ a w hr hn hi hs=>by
  have h:=hs.tmp.opd hs.hp.gl c
  rw[hc]at h
  generalize hv:a.eval c=v at h
  cases h
  exact wpIn_cond_split hv (fun h=>ht h ρ n cx Z γ a w (rng2 hr).1 hn hi hs) (fun h=>hf h ρ n cx Z γ a w (rng2 hr).2 hn hi hs)
theorem vc_cond_any {c:Operand} {x y:Code} (hc:opd s.t c=.anyb) (ht:VC P E x s Q) (hf:VC P E y s Q):VC P E (.cond c x y) s Q :=
 fun ρ n cx Z γ a w hr hn hi hs=>by
  have h:=hs.tmp.opd hs.hp.gl c
  rw[hc]at h
  generalize hv:a.eval c=v at h
  cases h
  exact wpIn_cond_split hv (fun _=>ht ρ n cx Z γ a w (rng2 hr).1 hn hi hs) (fun _=>hf ρ n cx Z γ a w (rng2 hr).2 hn hi hs)
theorem wpIn_loop_ghost {F:Fence} {n:Nat} {P:Program} {Q:Exit→Act→World→Prop} {c:Code} (I:Nat→Act→World→Prop)
  (round:∀ k a w,I k a w→c.wpIn F n P (Exit.then (fun a' w'=>∃ k',k'<k∧I k' a' w') Q) a w) (k:Nat) {a:Act} {w:World} (h0:I k a w):(Code.loop c).wpIn F n P Q a w:=by
 have key:∀ m k a w,k<m→I k a w→Code.roundsIn F n P c Q m a w:=by
  intro m
  induction m with
  | zero=>simp
  | succ m ih =>
   intro k a w hk hI
   refine wpIn_mono (round k a w hI) fun e a' w' h=>?_
   cases e with
   | normal =>
    obtain⟨k',hk',hI'⟩:=h
    exact ih k' a' w' (by omega) hI'
   | _=>exact h
 exact wpIn_loop_rounds (k+1) (key (k+1) k a w (by omega) h0)
theorem vc_loop {x:Code} (I:Nat→S→Prop) (k:Nat) (h0:I k s)
  (round:∀ k s,I k s→VC P E x s (thenQ (fun s'=>∃ k',k'<k∧I k' s') Q)):VC P E (.loop x) s Q :=
 fun ρ n cx Z γ a w hr hn hi hs=>by
  refine wpIn_loop_ghost (fun k a w=>∃ s Z γ,SRel cx s Z γ a w∧I k s) (fun k a w ⟨s,Z,γ,hs,hI⟩=>?_) k ⟨s,Z,γ,hs,h0⟩
  refine wpIn_mono (round k s hI ρ n cx Z γ a w hr hn hi hs) fun e a w ⟨s',Z',γ',h1,h2⟩=>?_
  cases e with
  | normal =>
   obtain⟨k',hk,hI'⟩:=h2
   exact⟨k',hk,s',Z',γ',h1,hI'⟩
  | _=>exact⟨s',Z',γ',h1,h2⟩
def SW (E:Env) (s s':S):Prop :=
 ∀ (cx:Cx) (Z:Addr→Prop) (γ:Gm) (a:Act) (w:World),cx.n=E.n→(∀ id o,cx.h0 id=some o→id∈E.ins)→SRel cx s Z γ a w→∃ Z' γ',SRel cx s' Z' γ' a w
theorem SW.refl:SW E s s:=fun _ Z γ _ _ _ _ h=>⟨Z,γ,h⟩
theorem SW.trans {s1 s2:S} (h:SW E s s1) (k:SW E s1 s2):SW E s s2:=fun cx Z γ a w hn hi hs =>
 let ⟨Z',γ',h'⟩:=h cx Z γ a w hn hi hs
 k cx Z' γ' a w hn hi h'
theorem vc_pre {c:Code} {s':S} (hw:SW E s s') (h:VC P E c s' Q):VC P E c s Q:=fun ρ n cx Z γ a w hr hn hi hs =>
 let ⟨Z',γ',h'⟩:=hw cx Z γ a w hn hi hs
 h ρ n cx Z' γ' a w hr hn hi h'
theorem vc_post {c:Code} (h:VC P E c s fun e s'=>∃ s'',SW E s' s''∧Q e s''):VC P E c s Q:=fun ρ n cx Z γ a w hr hn hi hs =>
 wpIn_mono (h ρ n cx Z γ a w hr hn hi hs) fun e a w ⟨s',Z',γ',h1,s'',hw,h2⟩ =>
  let ⟨Z2,γ2,h3⟩:=hw cx Z' γ' a w hn hi h1
  ⟨s'',Z2,γ2,h3,h2⟩
end
end Go.Av

end
section
namespace Go.Av
open Go.RowKit
def valS (P:Program) (o:Oper) (s:S):Option (Prop×S) :=
 match evVal P s.t s.h o with
 | some (p,v)=>some (p,⟨putA s.t o.dst v,s.h,s.u⟩)
 | none=>none
def opS (P:Program) (o:Oper) (s:S):Option (Prop×S) :=
 match o.op,o.dst with
 | .alloc ty,some d=>evAlloc P s d ty
 | .alloc _,none=>none
 | .box ty x,some d=>evBox P s d ty (opd s.t x)
 | .box _ _,none=>none
 | .buildSlice ty len parts,some d=>qbo P s d ty len (parts.toList.map fun x=>(x.1,opd s.t x.2))
 | .buildSlice _ _ _,none=>none
 | .makeSlice ty x y,some d=>evMake P s d ty (opd s.t x) (opd s.t y)
 | .makeSlice _ _ _,none=>none
 | .store ty x y,none=>evStore P s ty (opd s.t x) (opd s.t y)
 | .store _ _ _,some _=>none
 | .convert src dst x,some d=>match evVal P s.t s.h o with
  | some (p,v)=>some (p,⟨upd s.t d v,s.h,s.u⟩)
  | none=>evBytes P s d src dst (opd s.t x)
 | .convert _ _ _,none=>none
 | .call ⟨.builtin .append,args,tys⟩,some d=>match args.toList,tys.toList with
  | [x,y],[ty,xt]=>evApp P s d ty xt (opd s.t x) (opd s.t y)
  | _,_=>none
 | .call ⟨.builtin .append,_,_⟩,none=>none
 | .call ⟨.builtin .copy,args,tys⟩,dst=>match args.toList,tys.toList with
  | [x,y],[ty,xt]=>evCopy P s dst ty (opd s.t x) (opd s.t y)
  | _,_=>none
 | .call ⟨.builtin .clear,args,tys⟩,none=>match args.toList,tys.toList with
  | [x],[ty]=>evClear P s ty (opd s.t x)
  | _,_=>none
 | .call ⟨.builtin .clear,_,_⟩,some _=>none
 | _,_=>valS P o s
def enters (P:Program) (f:Nat):Bool:=(P.funcs[f]?).isSome
def callS (P:Program) (n:Nat) (f:Nat) (args:List AV) (dst:Option Nat) (s:S) (K:S→Prop):Prop :=
 enters P f=true∧(∀ k,dst=some k→k<n)∧∃ hv pl argsC L R,CallIn s hv pl args argsC L∧ACall P f argsC L R ∧
  ∀ r L',R r L'→∃ φ,CallOut s hv pl φ r L'∧K (qae s pl φ dst r L')
def outS (n:Nat) (dst:Option Nat) (r:Option (Prop×S)) (K:S→Prop):Prop :=
 match r with
 | some (p,s')=>p∧(match dst with | some d=>d<n | none=>True)∧K s'
 | none=>False
def callF (P:Program) (n:Nat) (v:AV) (args:List AV) (dst:Option Nat) (s:S) (K:S→Prop):Prop :=
 match v with
 | .fn f cap=>callS P n f (args++cap) dst s K
 | _=>False
def stepS (P:Program) (n:Nat) (o:Oper) (s:S) (K:S→Prop):Prop :=
 match o.op with
 | .call ⟨.value x,args,_⟩=>callF P n (opd s.t x) (args.toList.map (opd s.t)) o.dst s K
 | _=>outS n o.dst (opS P o s) K
def guardS (P:Program) (n:Nat) (ops:Array Oper) (o:Oper) (s:S) (K:S→Prop):Prop :=
 match o.guard with
 | none=>stepS P n o s K
 | some (g,want)=>match (ops[g]?).bind (·.dst)with
  | some d=>match s.t d with
   | .bool b=>(b=want→stepS P n o s K)∧(b≠want→(match o.dst with | some d=>d<n | none=>True)∧K ⟨putA s.t o.dst (.tup []),s.h,s.u⟩)
   | .tup _=>(match o.dst with | some d=>d<n | none=>True)∧K ⟨putA s.t o.dst (.tup []),s.h,s.u⟩
   | _=>False
  | none=>False
def regS (P:Program) (n:Nat) (ops:Array Oper) (K:S→Prop):List Oper→S→Prop
 | [],s=>K s
 | o::rest,s=>guardS P n ops o s (regS P n ops K rest)
section
variable {P:Program} {n:Nat} {c:Cx} {s:S} {Z:Addr→Prop} {γ:Gm} {a:Act} {w:World}
theorem dstOk {dst:Option Nat} (hn:c.n=n) (h:match dst with | some d=>d<n | none=>True):∀ k,dst=some k→k<c.n:=by
 grind
theorem valS_did (hs:SRel c s Z γ a w) {o:Oper} {p:Prop} {s':S} (hd:∀ k,o.dst=some k→k<c.n) (he:valS P o s=some (p,s')) (hp:p):Did P c a w o s' Z:=by
 unfold valS at he
 split at he
 ·rename_i p' v hv
  injection he with he
  injection he with e1 e2
  subst e1;subst e2
  obtain⟨u,hu,hr⟩:=evVal_sound hs.hp hs.tmp hv hp
  refine⟨γ,w,_,u,hu,.inl rfl,?_,by cases o.dst <;> simp[Act.put,hs.siz],by cases o.dst <;> exact hs.dfr,hs.hp,hs.fr,hs.own,hs.z0,hs.z1,hs.scp,hs.in0,hs.inp⟩
  exact hs.tmp.putO (fun k hk=>by rw[hs.siz];grind) hr
 grind
theorem opS_did (hs:SRel c s Z γ a w) {o:Oper} {p:Prop} {s':S} (hd:∀ k,o.dst=some k→k<c.n) (he:opS P o s=some (p,s')) (hp:p):Did P c a w o s' Z:=by
 unfold opS at he
 split at he
 ·grind[evAlloc_sound]
 ·grind
 ·grind[evBox_sound]
 ·grind
 ·grind[evBuildSlice_sound]
 ·grind
 ·grind[evMake_sound]
 ·grind
 ·grind[evStore_sound]
 ·grind
 ·rename_i h1 h2
  split at he
  ·rename_i p' v hv
   refine valS_did hs hd ?_ hp
   unfold valS;rw[hv,h2];exact he
  grind[evBytes_sound]
 ·grind
 ·grind[toList_two,evApp_sound]
 all_goals grind[toList_two,evCopy_sound,toList_one,evClear_sound,valS_did]
theorem semAt_of {P:Program} {o:Oper} {ρ:Option Nat} {f:Operand→Value} {w w':World} {x:Next} (hx:(execOp f o).run P w=.ok x w') (hne:∀ d,x≠.defer d):o.semAt ρ f=execOp f o:=by
 cases ρ with
 | none=>rfl
 | some l =>
  refine Oper.semAt_some l f o fun c hc=>?_
  simp only[execOp,hc,Sem.run_bind]at hx
  cases hr:(resolve f c o.type).run P w with
  | halt h w1=>simp_all
  | ok d w1 =>
   grind[Result.andThen_ok,Sem.run_pure]
theorem Did.wp {ρ:Option Nat} {m:Nat} {o:Oper} {s':S} (h:Did P c a w o s' Z) {next:Act→World→Prop} {Q:Exit→Act→World→Prop} (hn:∀ a' w',(∃ Z' γ',SRel c s' Z' γ' a' w')→next a' w'):o.wpIn (fen ρ) m P a w next Q:=by
 obtain⟨γ',w',x,u,hx,hu,hs⟩:=h
 refine⟨fun _ _=>trivial,?_⟩
 rw[semAt_of hx (by grind),hx]
 rcases hu with rfl | ⟨rfl,rfl⟩ <;> exact hn _ _ ⟨_,_,hs⟩
theorem callS_wp {ρ:Option Nat} {m:Nat} (hn:c.n=n) (hs:SRel c s Z γ a w) {o:Oper} {x:Operand} {args:Array Operand} {tys:Array TypeId} {f:Nat} {cap:List AV} {K:S→Prop} (ho:o.op=.call ⟨.value x,args,tys⟩) (hx:opd s.t x=.fn f cap)
  (h:callS P n f (args.toList.map (opd s.t)++cap) o.dst s K) {next:Act→World→Prop} {Q:Exit→Act→World→Prop} (hk:∀ s' a' w',(∃ Z' γ',SRel c s' Z' γ' a' w')→K s'→next a' w'):o.wpIn (fen ρ) m P a w next Q:=by
 obtain⟨hent,hdst,hv,pl,argsC,L,R,hin,hC,hR⟩:=h
 have hfn:=hs.tmp.opd hs.hp.gl x
 rw[hx]at hfn
 generalize hfv:a.eval x=fv at hfn
 cases hfn with
 | fn _ _ _ vs hsz hr =>
  have hex:(execOp a.eval o).run P w=(callFunc f (args.map a.eval++vs)).run P w:=by
   grind[execOp,resolve,Deferred.ofValue,invoke]
  have hargs:CRel w Z γ (args.toList.map (opd s.t)++cap) (args.map a.eval++vs):=by
   refine⟨by grind,fun j hj=>?_⟩
   by_cases hj1:j<args.size
   ·have e1:(args.toList.map (opd s.t)++cap).getD j .top=opd s.t args[j]:=by grind
    have e2:(args.map a.eval++vs).getD j undef=a.eval args[j]:=by simp_all
    rw[e1,e2];exact hs.tmp.opd hs.hp.gl _
   simp_all
  refine⟨fun _ _=>trivial,?_⟩
  have hsem:o.semAt (fen ρ).round a.eval=execOp a.eval o:=by
   cases ρ with
   | none=>rfl
   | some l=>exact Oper.semAt_some l _ o fun c hc=>by grind
  rw[hsem,hex]
  rcases hs.call hin hC hargs with⟨hb,hcc⟩ | ⟨v,w',hrun,v',r,L',he,hr',hout⟩
  ·rw[enter_run hb]
   refine⟨fun hd=>(by grind[fen,Fence.wide]),?_⟩
   show CallsIn Fence.wide (m-1) P f _ w _
   refine callsIn_wide.2 (hcc.mono ?_)
   rintro e w' ⟨v,r,L',rfl,hr',hout⟩
   obtain⟨φ,hco,hK⟩:=hR r L' hr'
   exact hk _ _ _ (hout φ o.dst hco (by grind)) hK
  ·rw[hrun]
   injection he with he;subst he
   obtain⟨φ,hco,hK⟩:=hR r L' hr'
   exact hk _ _ _ (hout φ o.dst hco (by grind)) hK
theorem stepS_wp {ρ:Option Nat} {m:Nat} (hn:c.n=n) (hs:SRel c s Z γ a w) {o:Oper} {K:S→Prop} (h:stepS P n o s K) {next:Act→World→Prop} {Q:Exit→Act→World→Prop} (hk:∀ s' a' w',(∃ Z' γ',SRel c s' Z' γ' a' w')→K s'→next a' w'):o.wpIn (fen ρ) m P a w next Q:=by
 unfold stepS at h
 split at h
 ·rename_i x args tys ho
  unfold callF at h
  grind[callS_wp]
 ·unfold outS at h
  split at h
  ·rename_i p s' he
   exact(opS_did hs (dstOk hn h.2.1) he h.1).wp fun a' w' hs'=>hk _ _ _ hs' h.2.2
  grind
theorem SRel.skip (hn:c.n=n) (hs:SRel c s Z γ a w) {dst:Option Nat} (h:match dst with | some d=>d<n | none=>True):SRel c ⟨putA s.t dst (.tup []),s.h,s.u⟩ Z γ (a.put dst undef) w :=
 ⟨hs.tmp.putO (fun k hk=>by rw[hs.siz];grind) (.tup _ _ _ rfl fun j hj=>by grind),by cases dst <;> simp[Act.put,hs.siz],by cases dst <;> exact hs.dfr,hs.hp,hs.fr,hs.own,hs.z0,hs.z1,hs.scp,hs.in0,hs.inp⟩
theorem yielded_bool (hs:SRel c s Z γ a w) {ops:Array Oper} {g d:Nat} {b:Bool} (hd:(ops[g]?).bind (·.dst)=some d) (hb:s.t d=.bool b):yielded ops a.tmps g=some b:=by
 have h:=hs.tmp d
 rw[hb]at h
 unfold yielded
 rw[hd]
 simp only[Option.bind_some]
 generalize hv:a.tmps.getD d undef=v at h
 cases h
 simp only[Array.getD_eq_getD_getElem?]at hv
 cases hx:a.tmps[d]? with
 | none=>simp[hx,undef]at hv
 | some y=>simp[hx]at hv;subst hv;rfl
theorem yielded_tup (hs:SRel c s Z γ a w) {ops:Array Oper} {g d:Nat} {l:List AV} (hd:(ops[g]?).bind (·.dst)=some d) (hb:s.t d=.tup l):yielded ops a.tmps g=none:=by
 have h:=hs.tmp d
 rw[hb]at h
 unfold yielded
 rw[hd]
 simp only[Option.bind_some]
 generalize hv:a.tmps.getD d undef=v at h
 cases h
 split<;>simp_all
theorem guardS_wp {ρ:Option Nat} {m:Nat} (hn:c.n=n) (hs:SRel c s Z γ a w) {ops:Array Oper} {o:Oper} {K:S→Prop} (h:guardS P n ops o s K) {next:Act→World→Prop} {Q:Exit→Act→World→Prop} (hk:∀ s' a' w',(∃ Z' γ',SRel c s' Z' γ' a' w')→K s'→next a' w') :
  if Region.wanted o (yielded ops a.tmps) then o.wpIn (fen ρ) m P a w next Q else next (a.put o.dst undef) w:=by
 unfold guardS at h
 split at h
 ·grind[Region.wanted,stepS_wp]
 ·rename_i g want hg
  split at h
  ·rename_i d hd
   split at h
   ·rename_i b hb
    have hy:=yielded_bool hs hd hb
    by_cases hw:b=want
    ·grind[Region.wanted,stepS_wp]
    ·rw[if_neg (by grind[Region.wanted])]
     exact hk _ _ _ ⟨_,_,hs.skip hn (h.2 hw).1⟩ (h.2 hw).2
   ·rename_i l hb
    have hy:=yielded_tup hs hd hb
    rw[if_neg (by grind[Region.wanted])]
    exact hk _ _ _ ⟨_,_,hs.skip hn h.1⟩ h.2
   grind
  grind
theorem regS_wp {ρ:Option Nat} {m:Nat} (hn:c.n=n) {ops:Array Oper} {K:S→Prop} {Q:Exit→Act→World→Prop} (hk:∀ s' a' w',(∃ Z' γ',SRel c s' Z' γ' a' w')→K s'→Q .normal a' w'):∀ (l:List Oper) (s:S) (a:Act) (w:World),
  (∃ Z γ,SRel c s Z γ a w)→regS P n ops K l s→wpListIn (fen ρ) m P ops Q l a w
 | [],s,a,w,hs,h=>hk s a w hs h
 | o::rest,s,a,w,⟨Z,γ,hs⟩,h=>by
  have:=guardS_wp (ρ:=ρ) (m:=m) (Q:=Q) hn hs h (fun s' a' w' hs' hr=>regS_wp (ρ:=ρ) (m:=m) hn hk rest s' a' w' hs' hr)
  unfold wpListIn
  split at this
  ·grind
  ·rename_i hw;rw[if_neg hw];exact⟨fun _ _=>trivial,this⟩
theorem vc_region {E:Env} {id:Nat} {l:List Oper} {Q:Exit→S→Prop} (h:regS P E.n l.toArray (Q .normal) l s):VC P E (.region id l.toArray false) s Q :=
 fun ρ m cx Z γ a w hr hn hi hs=>wpIn_region_lit (regS_wp hn (fun s' a' w' ⟨Z',γ',hs'⟩ hq=>⟨s',Z',γ',hs',hq⟩) l s a w ⟨Z,γ,hs⟩ h)
end
end Go.Av

end
section
namespace Go.Av
open Go.RowKit
def mkT:List (Nat×AV)→Tm
 | []=>fun _=>.top
 | (i,v)::r=>fun j=>if j=i then v else mkT r j
def rho (φ:List (Nat×Nat)):Nat→Option Plc:=fun id=>(phOf φ id).map .whole
def obOf (ρ:Nat→Option Plc):Option Ob→Ob
 | some o=>renOb ρ o
 | none=>⟨1,[]⟩
def canon (ins:List Nat) (live:List Nat) (φ:List (Nat×Nat)) (s:S):S :=
 ⟨mkT (live.map fun i=>(i,ren (rho φ) (s.t i))),hpOf (φ.map fun p=>(p.2,obOf (rho φ) (s.h p.1))),Us.of (ins++φ.map (·.2))⟩
theorem mkT_map {f:Nat→AV}:∀ (live:List Nat) (i:Nat),mkT (live.map fun i=>(i,f i)) i=f i∨mkT (live.map fun i=>(i,f i)) i=.top
 | [],i=>.inr rfl
 | j::r,i=>by
  simp only[List.map_cons,mkT]
  by_cases h:i=j
  ·grind
  ·rw[if_neg h];exact mkT_map r i
theorem nodup_fst {α β:Type}:∀ {l:List (α×β)} {a:α} {x y:β},(l.map (·.1)).Nodup→(a,x)∈l→(a,y)∈l→x=y
 | [],_,_,_,_,h,_=>by grind
 | (b,z)::r,a,x,y,hn,h1,h2=>by
  simp only[List.map_cons,List.nodup_cons]at hn
  simp only[List.mem_cons,Prod.mk.injEq]at h1 h2
  rcases h1 with⟨rfl,rfl⟩ | h1
  ·grind
  ·rcases h2 with⟨rfl,rfl⟩ | h2
   ·grind
   ·exact nodup_fst hn.2 h1 h2
section
variable {P:Program} {E:Env} {s:S} {Z:Addr→Prop} {γ:Gm} {w w':World}
theorem sw_canon (live:List Nat) (φ:List (Nat×Nat)) (h1:∀ p∈φ,(s.h p.1).isSome=true) (h2:(φ.map (·.2)).Nodup) (h3:∀ p∈φ,p.2∈E.ins→p.1=p.2) (h4:(φ.map (·.1)).Nodup) :
  SW E s (canon E.ins live φ s):=by
 intro cx Z γ a w hn hi hs
 let γ':Gm:=fun id=>if id∈E.ins then γ id else match phInv φ id with
  | some old=>γ old
  | none=>none
 have hmem:∀ {o n},(o,n)∈φ→γ' n=γ o:=fun {o n} hm=>by
  show(if n∈E.ins then γ n else match phInv φ n with | some old=>γ old | none=>none)=γ o
  split
  ·grind
  ·rw[phInv_of h2 hm]
 have hok:PlcOk γ γ' (rho φ):=fun c=>by
  unfold rho
  cases hc:phOf φ c<;>grind[phOf_mem]
 have hob:∀ id o,hpOf (φ.map fun p=>(p.2,obOf (rho φ) (s.h p.1))) id=some o→∃ old oo,(old,id)∈φ∧s.h old=some oo∧o=renOb (rho φ) oo:=fun id o ho=>by
  have:=qbl ho
  simp only[List.mem_map,Prod.mk.injEq]at this
  obtain⟨p,hp,e1,e2⟩:=this
  have h5:=h1 p hp
  cases hx:s.h p.1 with
  | none=>grind
  | some oo =>
   rw[hx]at e2
   obtain⟨p1,p2⟩:=p
   subst e1
   exact⟨p1,oo,hp,hx,e2.symm⟩
 refine⟨Z,γ',?_,hs.siz,hs.dfr,⟨fun id o ho=>?_,fun i j o1 o2 r1 r2 hne g1 g2 e1 e2=>?_,fun id o r ho hr=>?_,hs.hp.zlt,hs.hp.gl⟩,hs.fr,fun id o r ho hr=>?_,hs.z0,hs.z1,fun id r hr=>?_,hs.in0,fun id o ho=>?_⟩
 ·intro i
  rcases mkT_map (f:=fun i=>ren (rho φ) (s.t i)) live i with h | h
  ·simp only[canon,h];exact(hs.tmp i).ren hok
  ·simp only[canon,h];exact .top _ _
 ·obtain⟨old,oo,hm,hoo,rfl⟩:=hob id o ho
  obtain⟨r,hr,hor⟩:=hs.hp.obj old oo hoo
  refine⟨r,(hmem hm).trans hr,hor.spot,hor.sz,by simpa [renOb]using hor.fit,fun e he=>?_,hor.live,fun e j he hj=>?_,hor.pln⟩
  ·simp only[renOb,List.length_map]at he
   have e1:(oo.els.map (renL (rho φ))).getD e []=renL (rho φ) (oo.els.getD e []):=by grind
   simp only[renOb,e1,qbi];exact hor.len e he
  ·simp only[renOb,List.length_map]at he hj
   obtain⟨v,hv,hr'⟩:=hor.cell e j he hj
   have e1:(oo.els.map (renL (rho φ))).getD e []=renL (rho φ) (oo.els.getD e []):=by grind
   refine⟨v,hv,?_⟩
   simp only[renOb,e1,renL_getD]
   exact hr'.ren hok
 ·obtain⟨old1,oo1,hm1,hoo1,rfl⟩:=hob i o1 g1
  obtain⟨old2,oo2,hm2,hoo2,rfl⟩:=hob j o2 g2
  rw[hmem hm1]at e1
  rw[hmem hm2]at e2
  refine hs.hp.dis old1 old2 oo1 oo2 r1 r2 (fun e=>?_) hoo1 hoo2 e1 e2
  grind[nodup_fst]
 ·obtain⟨old,oo,hm,hoo,rfl⟩:=hob id o ho
  rw[hmem hm]at hr
  exact hs.hp.zon old oo r hoo hr
 ·obtain⟨old,oo,hm,hoo,rfl⟩:=hob id o ho
  rw[hmem hm]at hr
  exact hs.own old oo r hoo hr
 ·show id∈E.ins++φ.map (·.2)
  grind[phInv_mem]
 ·show(if id∈E.ins then γ id else match phInv φ id with | some old=>γ old | none=>none)=_
  rw[if_pos (hi id o ho)];exact hs.inp id o ho
end
end Go.Av

end
section
namespace Go.Av
open Go.RowKit
mutual
def frz (id:Nat) (o:Ob):AV→AV
 | .sl c e len=>if c=id then (if e+len≤o.els.length then .lst o.sz ((o.els.drop e).take len) else .top) else .sl c e len
 | .slc c e len cap=>if c=id then (if e+len≤o.els.length then .lst o.sz ((o.els.drop e).take len) else .top) else .slc c e len cap
 | .ptr c e off=>if c=id then (if e<o.els.length∧off≤o.sz then .elm ((o.els.getD e []).drop off) else .top) else .ptr c e off
 | .bsl c e off esz n=>if c=id then .top else .bsl c e off esz n
 | .agg cs=>.agg (frzL id o cs)
 | .tup vs=>.tup (frzL id o vs)
 | .fn f cs=>.fn f (frzL id o cs)
 | .top=>.top
 | .int k n=>.int k n
 | .bool b=>.bool b
 | .str s=>.str s
 | .nilp=>.nilp
 | .nils=>.nils
 | .nili=>.nili
 | .ifc=>.ifc
 | .anyb=>.anyb
 | .any1=>.any1
 | .lst sz els=>.lst sz els
 | .elm cs=>.elm cs
def frzL (id:Nat) (o:Ob):List AV→List AV
 | []=>[]
 | a::r=>frz id o a::frzL id o r
end
theorem frzL_length (id:Nat) (o:Ob):∀ l,(frzL id o l).length=l.length
 | []=>rfl
 | _::r=>by simp[frzL,frzL_length id o r]
theorem frzL_getD (id:Nat) (o:Ob):∀ (l:List AV) (j:Nat),(frzL id o l).getD j .top=frz id o (l.getD j .top)
 | [],j=>by rfl
 | a::r,0=>by rfl
 | a::r,j+1=>by simpa [frzL]using frzL_getD id o r j
def frzO (id:Nat) (o:Ob) (x:Ob):Ob:=⟨x.sz,x.els.map (frzL id o)⟩
def frzS (id:Nat) (o:Ob) (s:S):S:=⟨fun i=>frz id o (s.t i),fun j=>if j=id then none else (s.h j).map (frzO id o),s.u⟩
theorem AVRel.frz {w:World} {Z:Addr→Prop} {γ:Gm} {id:Nat} {o:Ob} {r:Rg} (hr:γ id=some r) (hor:ORel w Z γ o r) (hcl:o.els.all clL=true) {av:AV} {v:Value} (h:AVRel w Z γ av v) :
  AVRel w (fun p=>Z p∨r.has p) γ (frz id o av) v:=by
 revert hor hr
 generalize hG:γ=G at h
 intro hr hor
 revert hG hor hr
 have hclr:∀ e j,e<o.els.length→clA ((o.els.getD e []).getD j .top)=true:=fun e j he=>by
  grind[clL_getD]
 induction h with
 | top=>simp[Av.frz,top]
 | int=>simp[Av.frz,int]
 | bool=>simp[Av.frz,bool]
 | str=>simp[Av.frz,str]
 | nilp=>simp[Av.frz,nilp]
 | nils=>simp[Av.frz,nils]
 | nili=>simp[Av.frz,nili]
 | ifc=>simp[Av.frz,ifc]
 | anyb=>simp[Av.frz,anyb]
 | any1 γ v hv=>(try intros);simp only[Av.frz];exact .any1 _ _ hv
 | agg γ cs vs hs _ ih =>
  grind[Av.frz,agg,frzL_length,frzL_getD]
 | tup γ cs vs hs _ ih =>
  grind[Av.frz,tup,frzL_length,frzL_getD]
 | fn γ f cs vs hs _ ih =>
  grind[Av.frz,fn,frzL_length,frzL_getD]
 | ptr γ' c e off r' hg =>
  intro hG hr hor
  simp only[Av.frz]
  split
  ·rename_i hc;subst hc
   rw[hr]at hg;injection hg with hg;subst hg
   split
   ·rename_i he
    refine .elm _ _ _ (fun j=>(w.cell? (r.A.at (e * r.sz+off+j))).getD undef) rfl (fun j hj=>.inr ?_) (fun j hj=>?_) (fun j hj=>?_)
    ·simp only[List.length_drop,hor.len e he.1]at hj
     rw[qai]
     refine Rg.has_at ?_
     have:=row_lt (j:=off+j) he.1 (by omega) hor.fit
     rw[hor.sz];omega
    ·simp only[List.length_drop,hor.len e he.1]at hj
     obtain⟨v,hv,_⟩:=hor.cell e (off+j) he.1 (by omega)
     rw[qai,hor.sz]
     grind
    ·simp only[List.length_drop,hor.len e he.1]at hj
     obtain⟨v,hv,hrel⟩:=hor.cell e (off+j) he.1 (by omega)
     have e1:((o.els.getD e []).drop off).getD j .top=(o.els.getD e []).getD (off+j) .top:=by simp
     rw[← Nat.add_assoc]at hv
     rw[e1,hor.sz,hv]
     exact(hrel.closed (hclr _ _ he.1)).world (fun _ h=>.inl h) fun _ _=>rfl
   simp[top]
  grind[ptr]
 | bsl γ' c e off esz n r' hg =>
  grind[Av.frz,top,bsl]
 | sl γ' c e len cap r' hg hl hc =>
  intro hG hr hor
  subst hG
  simp only[Av.frz]
  split
  ·rename_i hcc;subst hcc
   rw[hr]at hg;injection hg with hg;subst hg
   split
   ·rename_i he
    have hlen:((o.els.drop e).take len).length=len:=by grind
    have hrow:∀ i,i<len→((o.els.drop e).take len).getD i []=o.els.getD (e+i) []:=fun i hi=>by grind
    have:=AVRel.lst (w:=w) (Z:=fun p=>Z p∨r.has p) γ o.sz ((o.els.drop e).take len) (some (r.A.at (e * r.sz))) cap (fun i j=>(w.cell? (r.A.at (e * r.sz+(i * o.sz+j)))).getD undef) (by omega)
     (fun _=>⟨_,rfl,fun i j hi hj=>.inr ?_,rfl,fun i j hi hj=>?_⟩) (fun i hi=>?_) (fun i j hi hj=>?_)
    ·grind
    ·rw[qai]
     refine Rg.has_at ?_
     have:=row_lt (e:=e+i) (j:=j) (by omega) hj hor.fit
     rw[Nat.add_mul]at this
     rw[hor.sz];omega
    ·obtain⟨v,hv,_⟩:=hor.cell (e+i) j (by omega) hj
     rw[Nat.add_mul,Nat.add_assoc]at hv
     rw[qai,hor.sz,hv];rfl
    ·rw[hlen]at hi
     rw[hrow i hi];exact hor.len _ (by omega)
    ·rw[hlen]at hi
     obtain⟨v,hv,hrel⟩:=hor.cell (e+i) j (by omega) hj
     rw[Nat.add_mul,Nat.add_assoc]at hv
     rw[hrow i hi,hor.sz,hv]
     exact(hrel.closed (hclr _ _ (by omega))).world (fun _ h=>.inl h) fun _ _=>rfl
   simp[top]
  grind[sl]
 | sl0 γ' c e a =>
  intro hG hr hor
  simp only[Av.frz]
  split
  ·split
   ·exact .lst _ _ [] _ 0 (fun _ _=>undef) (Nat.le_refl _) (fun h=>absurd rfl h) (fun i hi=>by grind) (fun i j hi=>by grind)
   simp[top]
  simp[sl0]
 | slc γ' c e len cap r' hg hl hc =>
  intro hG hr hor
  subst hG
  simp only[Av.frz]
  split
  ·rename_i hcc;subst hcc
   rw[hr]at hg;injection hg with hg;subst hg
   split
   ·rename_i he
    have hlen:((o.els.drop e).take len).length=len:=by grind
    have hrow:∀ i,i<len→((o.els.drop e).take len).getD i []=o.els.getD (e+i) []:=fun i hi=>by grind
    have:=AVRel.lst (w:=w) (Z:=fun p=>Z p∨r.has p) γ o.sz ((o.els.drop e).take len) (some (r.A.at (e * r.sz))) cap (fun i j=>(w.cell? (r.A.at (e * r.sz+(i * o.sz+j)))).getD undef) (by omega)
     (fun _=>⟨_,rfl,fun i j hi hj=>.inr ?_,rfl,fun i j hi hj=>?_⟩) (fun i hi=>?_) (fun i j hi hj=>?_)
    ·grind
    ·rw[qai]
     refine Rg.has_at ?_
     have:=row_lt (e:=e+i) (j:=j) (by omega) hj hor.fit
     rw[Nat.add_mul]at this
     rw[hor.sz];omega
    ·obtain⟨v,hv,_⟩:=hor.cell (e+i) j (by omega) hj
     rw[Nat.add_mul,Nat.add_assoc]at hv
     rw[qai,hor.sz,hv];rfl
    ·rw[hlen]at hi
     rw[hrow i hi];exact hor.len _ (by omega)
    ·rw[hlen]at hi
     obtain⟨v,hv,hrel⟩:=hor.cell (e+i) j (by omega) hj
     rw[Nat.add_mul,Nat.add_assoc]at hv
     rw[hrow i hi,hor.sz,hv]
     exact(hrel.closed (hclr _ _ (by omega))).world (fun _ h=>.inl h) fun _ _=>rfl
   simp[top]
  grind[slc]
 | slc0 γ' c e a =>
  intro hG hr hor
  simp only[Av.frz]
  split
  ·split
   ·exact .lst _ _ [] _ 0 (fun _ _=>undef) (Nat.le_refl _) (fun h=>absurd rfl h) (fun i hi=>by grind) (fun i j hi=>by grind)
   simp[top]
  simp[slc0]
 | lst γ' sz els a cap vf hl hc hs hr' _ =>
  intros;exact(AVRel.lst _ _ _ _ _ vf hl hc hs hr').world (fun _ h=>.inl h) fun _ _=>rfl
 | elm γ' cs A vf hA hz hc hr' _ =>
  intros;exact(AVRel.elm _ _ _ vf hA hz hc hr').world (fun _ h=>.inl h) fun _ _=>rfl
theorem sw_frz {E:Env} {s:S} (id:Nat) {o:Ob} (ho:s.h id=some o) (hcl:o.els.all clL=true) (hni:id ∉ E.ins) (hins:∀ i∈E.ins,(s.h i).isSome=true):SW E s (frzS id o s):=by
 intro cx Z γ a w hn hi hs
 obtain⟨r,hr,hor⟩:=hs.hp.obj id o ho
 have hob:∀ j x,(if j=id then none else (s.h j).map (frzO id o))=some x→j≠id∧∃ y,s.h j=some y∧x=frzO id o y:=fun j x hx=>by
  split at hx
  ·grind
  ·rename_i hj
   cases hy:s.h j<;>grind
 refine⟨fun p=>Z p∨r.has p,γ,fun i=>(hs.tmp i).frz hr hor hcl,hs.siz,hs.dfr,⟨fun j x hx=>?_,fun i j o1 o2 r1 r2 hne g1 g2=>?_,fun j x rg hx hg p hp=>?_,fun p hp=>?_,hs.hp.gl.world (fun _ h=>.inl h) (fun _ _=>rfl)⟩,hs.fr,fun j x rg hx hg=>?_,fun p hp=>.inl (hs.z0 p hp),fun p hp=>?_,hs.scp,hs.in0,hs.inp⟩
 ·obtain⟨hj,y,hy,rfl⟩:=hob j x hx
  obtain⟨ry,hry,hoy⟩:=hs.hp.obj j y hy
  have e1:∀ e,e<y.els.length→(y.els.map (frzL id o)).getD e []=frzL id o (y.els.getD e []):=fun e he=>by grind
  refine⟨ry,hry,hoy.spot,hoy.sz,by simpa [frzO]using hoy.fit,fun e he=>?_,hoy.live,fun e k he hk=>?_,hoy.pln⟩
  ·simp only[frzO,List.length_map]at he ⊢
   rw[e1 e he,frzL_length];exact hoy.len e he
  ·simp only[frzO,List.length_map]at he hk ⊢
   obtain⟨v,hv,hrel⟩:=hoy.cell e k he hk
   exact⟨v,hv,by rw[e1 e he,frzL_getD];exact hrel.frz hr hor hcl⟩
 ·obtain⟨_,y1,hy1,rfl⟩:=hob i o1 g1
  obtain⟨_,y2,hy2,rfl⟩:=hob j o2 g2
  exact hs.hp.dis i j y1 y2 r1 r2 hne hy1 hy2
 ·obtain⟨hj,y,hy,rfl⟩:=hob j x hx
  rintro(hz | hz)
  ·exact hs.hp.zon j y rg hy hg p hp hz
  ·exact Rg.apart_has (hs.hp.dis j id y o rg r hj hy ho hg hr) hp hz
 ·rcases hp with hp | hp
  ·exact hs.hp.zlt p hp
  ·obtain⟨p1,p2,p3,p4⟩:=hp
   obtain⟨⟨v,hv⟩,_⟩:=hor.live (p.off-r.A.off) (by omega)
   have:=World.block_lt_of_cell? w _ hv
   grind[at_block]
 ·obtain⟨_,y,hy,rfl⟩:=hob j x hx
  exact hs.own j y rg hy hg
 ·rcases hp with hp | hp
  ·exact hs.z1 p hp
  ·rcases hs.own id o r ho hr p hp with h | ⟨id0,o0,r0,h0,hg0,hp0⟩
   ·omega
   ·have hin:=hi id0 o0 h0
    have hg1:=(hs.inp id0 o0 h0).trans hg0
    have h2:=hins id0 hin
    cases hx:s.h id0 with
    | none=>grind
    | some y=>exact absurd hp0 (Rg.apart_has (hs.hp.dis id id0 o y r r0 (fun e=>hni (e ▸ hin)) ho hx hr hg1) hp)
end Go.Av

end
section
namespace Go.Av
open Go.RowKit
def argT (args:List AV):Tm:=fun i=>args.getD i .top
def evRes1 (P:Program) (s:S):ResultVar→Option (Prop×AV)
 | .tmp t=>some (True,s.t t)
 | .cell a t=>match s.t a with
  | .ptr id e off=>evLoad P s.h t (.ptr id e off)
  | _=>none
def evResL (P:Program) (s:S):List ResultVar→Option (Prop×List AV)
 | []=>some (True,[])
 | r::rs=>match evRes1 P s r,evResL P s rs with
  | some (p,v),some (q,vs)=>some (p∧q,v::vs)
  | _,_=>none
def resOf:List AV→AV
 | [v]=>v
 | vs=>.tup vs
def hpLe (h:Hp):List (Nat×Ob)→Prop
 | []=>True
 | (i,o)::r=>h i=some o∧hpLe h r
theorem hpLe_spec {h:Hp}:∀ {l:List (Nat×Ob)},hpLe h l→∀ {i:Nat} {o:Ob},hpOf l i=some o→h i=some o
 | [],_,_,_,ho=>by grind[hpOf]
 | (j,x)::r,hl,i,o,ho=>by
  unfold hpOf at ho
  split at ho
  ·rename_i hij;subst hij;injection ho with ho;subst ho;exact hl.1
  ·exact hpLe_spec hl.2 ho
def retQ (P:Program) (rs:List ResultVar) (R:AV→List (Nat×Ob)→Prop) (e:Exit) (s:S):Prop :=
 (e=.normal∨e=.ret)∧∃ p vs,evResL P s rs=some (p,vs)∧p∧∃ L',hpLe s.h L'∧R (resOf vs) L'
section
variable {P:Program} {c:Cx} {s:S} {Z:Addr→Prop} {γ:Gm} {a:Act} {w:World}
def resF (tmps:Array Value):ResultVar→Sem Value
 | .tmp t=>pure (tmps.getD t undef)
 | .cell a t=>do loadVar t (← asAddr (tmps.getD a undef))
theorem evRes1_sound (hs:SRel c s Z γ a w) {r:ResultVar} {p:Prop} {v:AV} (he:evRes1 P s r=some (p,v)) (hp:p) :
  ∃ u,(resF a.tmps r).run P w=.ok u w∧AVRel w Z γ v u:=by
 cases r with
 | tmp t =>
  obtain⟨_,rfl⟩:=he
  exact⟨_,rfl,hs.tmp t⟩
 | cell x t =>
  simp only[evRes1]at he
  split at he
  ·rename_i id e off hx
   have h:=hs.tmp x
   rw[hx]at h
   obtain⟨u,hu,hr⟩:=evLoad_sound hs.hp h he hp
   refine⟨u,?_,hr⟩
   simp only[resF,Sem.run_bind]
   generalize hv:a.tmps.getD x undef=xv at h hu ⊢
   cases h
   simp_all[Instr.loadAt,Instr.sureAddr,asAddr]
  grind
theorem evResL_sound (hs:SRel c s Z γ a w):∀ {rs:List ResultVar} {p:Prop} {vs:List AV},evResL P s rs=some (p,vs)→p →
  ∃ us,(rs.mapM (resF a.tmps)).run P w=.ok us w∧us.length=vs.length∧∀ j,j<vs.length→AVRel w Z γ (vs.getD j .top) (us.getD j undef)
 | [],p,vs,he,hp=>by
  simp only[evResL,Option.some.injEq,Prod.mk.injEq]at he
  obtain⟨_,rfl⟩:=he
  exact⟨[],rfl,rfl,fun j hj=>by simp at hj⟩
 | r::rs,p,vs,he,hp=>by
  simp only[evResL]at he
  split at he
  ·rename_i p1 v q ws h1 h2
   simp only[Option.some.injEq,Prod.mk.injEq]at he
   obtain⟨rfl,rfl⟩:=he
   obtain⟨u,hu,hr⟩:=evRes1_sound hs h1 hp.1
   obtain⟨us,hus,hl,hrs⟩:=evResL_sound hs h2 hp.2
   refine⟨u::us,?_,by simp[hl],fun j hj=>?_⟩
   ·rw[List.mapM_cons]
    simp only[Sem.run_bind,hu,Result.andThen_ok,hus]
    rfl
   ·cases j with
    | zero=>exact hr
    | succ j=>exact hrs j (by simpa using hj)
  ·cases he
theorem SRel.shut (hs:SRel c s Z γ a w) {D:Nat} {ds:List Deferred} (hd:a.defers=mkD D::ds):w.heap[D]?=some (Obj.deferred (some []))∧SRel c s Z γ { a with defers:=ds } (w.putObj D (.deferred none)):=by
 obtain⟨Ds,h1,h2,h3⟩:=hs.dfr
 rw[hd]at h1
 cases Ds with
 | nil=>grind
 | cons D' Ds =>
  simp only[List.map_cons,List.cons.injEq,mkD,Deferred.mk.injEq,and_true]at h1
  obtain⟨e1,e2⟩:=h1
  have e3:D=D':=by grind
  subst e3
  have hD:=h3 D (by simp)
  have hother:∀ k,k≠D→(w.putObj D (.deferred none)).heap[k]?=w.heap[k]?:=fun k hk=>World.putObj_heap_other hk
  have hself:(w.putObj D (.deferred none)).heap[D]?=some (Obj.deferred none):=by
   grind[World.putObj]
  have hcell:∀ p:Addr,(w.putObj D (.deferred none)).cell? p=w.cell? p∧(w.putObj D (.deferred none)).frozen? p=w.frozen? p:=fun p=>by
   grind[World.cell?,World.frozen?]
  have hsz:(w.putObj D (.deferred none)).heap.size=w.heap.size:=by simp
  simp only[List.nodup_cons]at h2
  refine⟨hD.2,fun i=>(hs.tmp i).world (fun _ h=>h) fun p _=>(hcell p).1,hs.siz,⟨Ds,e2,h2.2,fun E hE=>⟨(h3 E (List.mem_cons_of_mem _ hE)).1,?_⟩⟩,hs.hp.same (fun p _=>hcell p) (by simp),⟨hs.fr.os,hs.fr.tape,hs.fr.output,by grind,fun b hb=>?_⟩,hs.own,hs.z0,hs.z1,hs.scp,hs.in0,hs.inp⟩
  ·grind
  ·rw[hother b (by omega)];exact hs.fr.blk b hb
theorem leaves_marks {n:Nat} {fn:Func} {R:Ending→World→Prop}:∀ (Ds:List Nat) (a:Act) (w:World),a.defers=Ds.map mkD→SRel c s Z γ a w →
  (∀ w1,SRel c s Z γ { a with defers:=[] } w1→∃ v,(results fn a.tmps).run P w1=.ok v w1∧R (.returned v) w1)→LeavesInM Fence.wide n P fn a.tmps R a.defers .returning w
 | [],a,w,hd,hs,h=>by
  rw[hd]
  have hs':SRel c s Z γ { a with defers:=[] } w:=by
   have e:{ a with defers:=[] }=a:=by cases a;grind
   grind
  exact h w hs'
 | D::Ds,a,w,hd,hs,h=>by
  rw[hd,List.map_cons]
  obtain⟨h1,h2⟩:=hs.shut (ds:=Ds.map mkD) (by rw[hd];rfl)
  refine⟨by simp,.inl ⟨D,_,rfl,run_takeDeferred h1,?_⟩⟩
  exact leaves_marks Ds { a with defers:=Ds.map mkD } _ rfl h2 h
theorem acall {f:Nat} (hbd:hasBody P f=true) {fn:Func} {b:Code} {args:List AV} {L:List (Nat×Ob)} {R:AV→List (Nat×Ob)→Prop} (hf:P.funcs[f]?=some fn) (hb:fn.body=some b) (hn:args.length≤fn.ntmps) (hL:(L.map (·.1)).Nodup)
  (h:VC P ⟨fn.ntmps,L.map (·.1)⟩ b ⟨argT args,hpOf L,Us.of (L.map (·.1))⟩ (retQ P fn.results.toList R)):ACall P f args L R:=by
 intro w Z γ vs hargs hh hsc
 have hkey:∀ id o,hpOf L id=some o→id∈L.map (·.1):=fun id o ho=>List.mem_map.2 ⟨_,qbl ho,rfl⟩
 refine .inl ⟨hbd,?_⟩
 refine(callsIn_wide (n:=0)).1 (callsIn_of_wp_marks hf hb trivial (wpIn_mono (h none 0 ⟨w,Z,γ,hpOf L,fn.ntmps⟩ Z γ _ w (.inl rfl) rfl hkey ?_) ?_))
 ·refine⟨fun i=>?_,?_,Mk.nil _ _,hh,.refl _ _,fun id o r ho hr p hp=>.inr ⟨id,o,r,ho,hr,hp⟩,fun _ h=>h,fun _ h=>.inl h,fun id r hr=>?_,fun id o ho=>?_,fun _ _ _=>rfl⟩
  ·show AVRel w Z γ (args.getD i .top) _
   by_cases hi:i<args.length
   ·have:=hargs.2 i hi
    have e1:(vs++Array.replicate (fn.ntmps-vs.size) undef).getD i undef=vs.getD i undef:=by
     have:i<vs.size:=by rw[hargs.1];omega
     simp_all[Array.getElem?_append]
    grind
   ·have e1:args.getD i .top=.top:=by grind
    rw[e1];exact .top _ _
  ·have:=hargs.1
   grind
  ·have:=hsc id r hr
   cases hx:hpOf L id with
   | none=>grind
   | some o=>exact hkey id o hx
  ·obtain⟨r,hr,_⟩:=hh.obj id o ho;grind
 ·rintro e a' w1 ⟨s',Z',γ',hs1,he,p,ws,hev,hp,L',hle,hR⟩
  have fin:∀ w',SRel ⟨w,Z,γ,hpOf L,fn.ntmps⟩ s' Z' γ' { a' with defers:=[] } w'→∃ v,(results fn a'.tmps).run P w'=.ok v w'∧∃ v2 r L' Z' γ',Ending.returned v=.returned v2∧R r L'∧AVRel w' Z' γ' r v2∧HRel w' Z' γ' (hpOf L')∧Fr (Foot γ (hpOf L)) w w' ∧
   (∀ p,Z p→Z' p)∧(∀ p,Z' p→Z p∨w.heap.size≤p.block) ∧
   (∀ id o rg,hpOf L' id=some o→γ' id=some rg→∀ p,rg.has p→w.heap.size≤p.block∨Foot γ (hpOf L) p) ∧
   (∀ id o,hpOf L id=some o→γ' id=γ id):=fun w' hs=>by
   obtain⟨us,hus,hlen,hrel⟩:=evResL_sound (P:=P) hs hev hp
   have hres:∃ v,(results fn a'.tmps).run P w'=.ok v w'∧AVRel w' Z' γ' (resOf ws) v:=by
    refine⟨if h:us.toArray.size=1 then us.toArray[0] else .tuple us.toArray,?_,?_⟩
    ·rw[show results fn a'.tmps=(do let vs ← fn.results.mapM (resF a'.tmps);pure (if h:vs.size=1 then vs[0] else .tuple vs)) from rfl]
     simp_all[Array.mapM_eq_mapM_toList]
    ·match ws,us,hlen,hrel with
     | [x],[u],_,hrel=>exact hrel 0 (by simp)
     | [],[],_,hrel=>exact .tup _ _ _ rfl fun j hj=>by grind
     | x::y::ws,u::u'::us,hlen,hrel =>
      refine .tup _ _ _ (by omega) fun j hj=>?_
      simp_all
   obtain⟨v,hv,hrv⟩:=hres
   have hsub:∀ id o,hpOf L' id=some o→s'.h id=some o:=fun id o ho=>hpLe_spec hle ho
   refine⟨v,hv,v,_,L',Z',γ',rfl,hR,hrv,⟨fun id o ho=>hs.hp.obj id o (hsub id o ho),fun i j o1 o2 r1 r2 hne h1 h2=>hs.hp.dis i j o1 o2 r1 r2 hne (hsub _ _ h1) (hsub _ _ h2),fun id o r ho=>hs.hp.zon id o r (hsub _ _ ho),hs.hp.zlt,hs.hp.gl⟩,hs.fr,hs.z0,hs.z1,fun id o rg ho hg=>hs.own id o rg (hsub _ _ ho) hg,fun id o ho=>hs.inp id o ho⟩
  rcases he with rfl | rfl
  ·obtain⟨Ds,hDs,_⟩:=hs1.dfr
   exact leaves_marks Ds a' w1 hDs hs1 fin
  ·obtain⟨Ds,hDs,_⟩:=hs1.dfr
   exact leaves_marks Ds a' w1 hDs hs1 fin
end
end Go.Av

end
