/- Lemmas for the proof, no statement of the seat; no conditions. -/
import Derived.Test.YthgigdhkcffloaaGreatDoorLayAP
set_option linter.unusedSimpArgs false
set_option linter.unusedVariables false
set_option linter.unnecessarySimpa false
set_option maxRecDepth 100000
section
namespace Go.Av.F
open Go Go.Av Go.Proofs Go.Proofs.Tryz
theorem oneM_refs (more:Bool) (p:PT) (l:List DE) (b:Bool):refsL more (oneM p) (l,b,true)=refsL more [p] (l,b,true):=by
 have e:∀ (q:List PT) x,refsL more (p::q) x=if p.pa=0 then refsL more q x else refsL more q ((refB more x.1 p).1,true,x.2.2 && (refB more x.1 p).2):=fun q x=>rfl
 unfold oneM
 rw[e,e]
 split <;> rfl
theorem core_set {c:CO} (h:qah c=true) {s:CS} (hs:s∈c.sets):csOkB s=true:=by
 simp only[qah,Bool.and_eq_true,List.all_eq_true]at h
 exact h.1.1.1.1.2 s hs
end Go.Av.F

end
section
namespace Go.Av.F
open Go Go.Av Go.Proofs Go.Proofs.Tryz
theorem placesB_of:∀ {l:List Int} {q:Int},(∀ x∈l,q<x∧13≤x∧x<120)→l.Pairwise (· < ·)→qbq q l=true
 | [],q,_,_=>rfl
 | a::r,q,h,hp=>by
  rw[List.pairwise_cons]at hp
  have ha:=h a (by simp)
  simp only[qbq,Bool.and_eq_true,decide_eq_true_eq]
  exact⟨⟨⟨ha.2.1,ha.2.2⟩,ha.1⟩,placesB_of (fun x hx=>⟨hp.1 x hx,(h x (by simp[hx])).2⟩) hp.2⟩
theorem reach_ok {c:CO} (hc:qah c=true) {root:Int} (hr:13≤root∧root<120):qbq 12 (reachB c root)=true:=by
 have hs:(srt (hiL (rawL c root))).Pairwise (·≤·):=by
  have:=List.pairwise_mergeSort (le:=fun x y:Int=>decide (x≤y)) (fun a b c h1 h2=>by simp at *;omega) (fun a b=>by simp;omega) (hiL (rawL c root))
  simpa [srt]using this
 obtain⟨h1,h2⟩:=dsL_up hs
 rw[reach_law]at h1 h2
 refine placesB_of (fun x hx=>?_) h1
 have hm:=(h2 x).1 hx
 rw[srt,List.mem_mergeSort,hiL,List.mem_filter]at hm
 obtain⟨hm,hlo⟩:=hm
 simp only[loB,Bool.not_eq_true',decide_eq_false_iff_not]at hlo
 refine⟨by omega,by omega,?_⟩
 simp only[rawL,List.mem_cons,List.mem_append,List.mem_map]at hm
 have hpt:∀ p:PT,ptOkB p=true→p.pa<120:=fun p h=>by
  unfold ptOkB at h
  split at h
  ·omega
  ·simp only[Bool.and_eq_true,decide_eq_true_eq]at h
   omega
 rcases hm with rfl | ⟨e,he,rfl⟩ | ⟨s,hs,rfl⟩ | ⟨p,hp,rfl⟩
 ·exact hr.2
 ·have hd:=core_ddt hc
  simp only[qaf,Bool.and_eq_true,decide_eq_true_eq]at hd
  have:=((qch hd.2).1 e he).2
  simp only[deOkB,Bool.and_eq_true,decide_eq_true_eq]at this
  omega
 ·have:=core_set hc hs
  simp only[csOkB,Bool.and_eq_true]at this
  exact hpt _ this.1.2
 ·simp only[qah,Bool.and_eq_true,List.all_eq_true]at hc
  have:=hc.1.1.1.2 p hp
  simp only[qbb,Bool.and_eq_true]at this
  exact hpt _ this.1
theorem commit_core {d:DK} {c:CO} (h:CoT c) (hz:(qak d c).2.2=0):qah (qak d c).2.1=true∧(qak d c).2.1.sets.map csB=c.sets.map csB:=by
 obtain⟨hd,hc,_,_,_,_,_,ht,_,_⟩:=qca h hz
 unfold qak at hz ⊢
 by_cases h1:dOkB d=false∨qah c=false∨d.s0.length≤13
 ·rw[if_pos h1]at hz;simp at hz
 rw[if_neg h1]at hz ⊢
 by_cases h2:mayDoB d c=false
 ·rw[if_pos h2]at hz;simp at hz
 rw[if_neg h2]at hz ⊢
 by_cases h3:(doneB d c).2.2≠0
 ·rw[if_pos h3]at hz;exact absurd hz h3
 rw[if_neg h3]at hz ⊢
 have hf:needsB c≤(freeB c d.s0.length).length:=by
  cases hx:mayDoB d c with
  | false=>exact absurd hx h2
  | true =>
   simp only[mayDoB,Bool.and_eq_true,decide_eq_true_eq]at hx
   exact hx.2
 obtain⟨hT,hC,hp⟩:=blkC_ok hd h hc hf ht
 have hp2:(qag d c).2.2.pa<120:=by
  have:ptOkB (qag d c).2.2=true:=blk_ok _ _ _
  unfold ptOkB at this
  split at this
  ·omega
  ·simp only[Bool.and_eq_true,decide_eq_true_eq]at this
   omega
 have hS:(qag d c).2.1.sets.map csB=c.sets.map csB:=(setsB_same (c.txg+1) c.sets ⟨d,freeB c d.s0.length,true⟩).2.1
 have hr:=reach_ok hC ⟨hp,hp2⟩
 obtain⟨_,_,_,_,q1,q2,_,_⟩:=coreOk_M hc
 unfold doneB at hz h3 ⊢
 by_cases h4:(qag d c).1.ok=false
 ·rw[if_pos h4]at hz;simp at hz
 rw[if_neg h4]at hz ⊢
 by_cases h5:(ringB (qbm (qag d c).1.d) (c.txg+1) (qag d c).2.2).2=false
 ·rw[if_pos h5]at hz;simp at hz
 rw[if_neg h5]
 refine⟨?_,hS⟩
 generalize (qag d c).2.1=B at *
 simp only[qah,Bool.and_eq_true]at hC ⊢
 obtain⟨⟨⟨⟨⟨⟨⟨⟨⟨⟨⟨p1,p2⟩,p3⟩,p4⟩,p5⟩,p6⟩,p7⟩,p8⟩,p9⟩,p10⟩,p11⟩,p12⟩:=hC
 refine⟨⟨⟨⟨⟨⟨⟨⟨⟨⟨⟨?_,?_⟩,p3⟩,p4⟩,hr⟩,?_⟩,?_⟩,p8⟩,p9⟩,p10⟩,?_⟩,?_⟩
 ·simp;omega
 ·simp;omega
 ·simp
 ·simp
 ·exact p11
 ·exact p12
end Go.Av.F

end
section
namespace Go.Av.F
open Go Go.Av Go.Proofs Go.Proofs.Tryz
theorem turnB_T {d:DK} {c:CO} (h:CoT c) (hm:CoM c) (k i:Nat) (text:List UInt8):CoT (turnB d c k i text).2.1:=by
 unfold turnB
 split
 ·exact h
 rename_i s hs
 have hs8:=h.m8 s (List.mem_of_getElem? hs)
 have hsn:=h.nm s (List.mem_of_getElem? hs)
 have hG:∀ (x:DK) (old now:PT),CoT (turnG d x c k i s old now).2.1:=fun x old now=>by
  unfold turnG
  simp only
  split
  ·exact h
  ·have h1:=refsL_len true (oneM now) (c.ddt,c.dirty,true)
   have h2:=refsL_len false (oneM old) ((refsL true (oneM now) (c.ddt,c.dirty,true)).1,(refsL true (oneM now) (c.ddt,c.dirty,true)).2.1,true)
   have h3:=hm.ddt
   have h4:=hm.sets
   simp only[oneM,List.length_cons,List.length_nil]at h1 h2
   refine⟨by simp;omega,?_,h.parts,h.safe,fun x hx=>?_,fun x hx=>?_⟩
   ·simp only[oneM];omega
   ·rcases List.mem_or_eq_of_mem_set hx with hx | rfl
    ·exact h.m8 x hx
    ·simpa using hs8
   ·rcases List.mem_or_eq_of_mem_set hx with hx | rfl
    ·exact h.nm x hx
    ·exact hsn
 simp only
 split
 ·exact hG _ _ _
 split
 ·exact h
 split
 ·exact h
 split
 ·exact h
 ·exact hG _ _ _
theorem callB_T {d:DK} {c:CO} (hd:dOkB d=true) (h:CoT c) (hc:qah c=true) (op:BO) (ha:op.a.length≤1048576) (hb:op.b.length≤1048576) (hz:(callB d c op).2.2=0):dOkB (callB d c op).1=true∧CoT (callB d c op).2.1:=by
 obtain⟨hm,k1,k2,k3,k4,k5,k6,k7⟩:=coreOk_M hc
 unfold callB at hz ⊢
 by_cases q1:dnB c op≠0
 ·rw[if_pos q1]at hz;exact absurd hz q1
 rw[if_neg q1]at hz ⊢
 by_cases q2:op.kind≠3
 ·rw[if_pos q2]at hz ⊢
  by_cases q3:(setsD c op).2=false
  ·rw[if_pos q3]at hz;simp at hz
  rw[if_neg q3]at hz ⊢
  obtain⟨_,_,a1,_,a2,_⟩:=qca (setsD_T h hm op ha hb) hz
  exact⟨a1,a2⟩
 rw[if_neg q2]at hz ⊢
 have key:∀ z:DK×CO×Int,dOkB z.1=true→CoT z.2.1→CoM z.2.1→(putZ d c op z).2.2=0→dOkB (putZ d c op z).1=true∧CoT (putZ d c op z).2.1:=fun z z1 z2 z3 hz=>by
  unfold putZ at hz ⊢
  by_cases q4:z.2.2≠0
  ·rw[if_pos q4]at hz;exact absurd hz q4
  rw[if_neg q4]at hz ⊢
  have t1:=turnB_ok z1 z.2.1 (nmP c.sets op.a) op.i.toNat op.text
  have t2:=turnB_T (d:=z.1) z2 z3 (nmP c.sets op.a) op.i.toNat op.text
  generalize turnB z.1 z.2.1 (nmP c.sets op.a) op.i.toNat op.text=w at *
  unfold putL at hz ⊢
  by_cases q5:w.2.2≠0
  ·rw[if_pos q5]at hz;exact absurd hz q5
  rw[if_neg q5]at hz ⊢
  by_cases q6:(qcc w.1 w.2.1 ⟨op.kind,op.a,[],op.i,op.text⟩).2.2=false
  ·rw[if_pos q6]at hz;simp at hz
  rw[if_neg q6]
  simp only
  unfold qcc
  split
  ·exact⟨t1.1,t2⟩
  split
  ·exact⟨t1.1,t2⟩
  ·exact⟨(qcg t1.1 _ _).1,⟨t2.sets,t2.ddt,t2.parts,t2.safe,t2.m8,t2.nm⟩⟩
 by_cases q4:c.logn=8
 ·rw[if_pos q4]at hz ⊢
  by_cases q5:(qak d c).2.2=0
  ·obtain⟨_,_,a1,_,a2,a3,_⟩:=qca h q5
   exact key _ a1 a2 a3 hz
  ·unfold putZ at hz
   rw[if_pos q5]at hz
   exact absurd hz q5
 ·rw[if_neg q4]at hz ⊢
  exact key (d,c,0) hd h hm hz
end Go.Av.F

end
section
namespace Go.Av.F
open Go Go.Av Go.Proofs Go.Proofs.Tryz
theorem countP_set {α:Type} (f:α→Bool):∀ {l:List α} {i:Nat} {x:α} (y:α),l[i]?=some x→(l.set i y).countP f+(if f x=true then 1 else 0)=l.countP f+(if f y=true then 1 else 0)
 | [],i,x,y,h=>by simp at h
 | a::r,0,x,y,h=>by
  simp only[List.getElem?_cons_zero,Option.some.injEq]at h
  subst h
  simp only[List.set_cons_zero,List.countP_cons]
  omega
 | a::r,i+1,x,y,h=>by
  simp only[List.getElem?_cons_succ]at h
  have:=countP_set f y h
  simp only[List.set_cons_succ,List.countP_cons]
  omega
theorem countP_pts (f:PT→Bool):∀ {l:List CS} {k i:Nat} {s s':CS} {old now:PT},l[k]?=some s→s.map[i]?=some old→s'.map=s.map.set i now →
  (qan (l.set k s')).countP f+(if f old=true then 1 else 0)=(qan l).countP f+(if f now=true then 1 else 0)
 | [],k,i,s,s',old,now,h,_,_=>by simp at h
 | a::r,0,i,s,s',old,now,h,h2,h3=>by
  simp only[List.getElem?_cons_zero,Option.some.injEq]at h
  subst h
  have:=countP_set f now h2
  simp only[qan,List.set_cons_zero,List.flatMap_cons,List.countP_append,h3]
  omega
 | a::r,k+1,i,s,s',old,now,h,h2,h3=>by
  simp only[List.getElem?_cons_succ]at h
  have:=countP_pts f h h2 h3
  simp only[qan,List.set_cons_succ,List.flatMap_cons,List.countP_append]at this ⊢
  omega
theorem mem_pts {l:List CS} {k i:Nat} {s s':CS} {now p:PT} (h:l[k]?=some s) (h3:s'.map=s.map.set i now) (hp:p∈qan (l.set k s')):p∈qan l∨p=now:=by
 simp only[qan,List.mem_flatMap]at hp ⊢
 obtain⟨t,ht,hpt⟩:=hp
 rcases List.mem_or_eq_of_mem_set ht with ht | rfl
 ·exact .inl ⟨t,ht,hpt⟩
 ·rw[h3]at hpt
  rcases List.mem_or_eq_of_mem_set hpt with hpt | rfl
  ·exact .inl ⟨s,List.mem_of_getElem? h,hpt⟩
  ·exact .inr rfl
def ecA (l:List DE) (a:Int):Int:=sumEc (l.filter fun e=>decide (e.ea=a))
theorem ecA_nil (a:Int):ecA [] a=0:=rfl
theorem ecA_cons (e:DE) (l:List DE) (a:Int):ecA (e::l) a=(if e.ea=a then e.ec else 0)+ecA l a:=by
 unfold ecA
 rw[List.filter_cons]
 split
 ·rename_i h
  rw[if_pos (by simpa using h),sumEc]
 ·rename_i h
  rw[if_neg (by simpa using h)]
  omega
theorem ecA_app (a:Int):∀ (l m:List DE),ecA (l++m) a=ecA l a+ecA m a
 | [],m=>by simp[ecA_nil]
 | e::l,m=>by
  rw[List.cons_append,ecA_cons,ecA_cons,ecA_app a l m]
  omega
theorem sumEc_app:∀ (l m:List DE),sumEc (l++m)=sumEc l+sumEc m
 | [],m=>by simp[sumEc]
 | e::l,m=>by
  rw[List.cons_append,sumEc,sumEc,sumEc_app l m]
  omega
theorem ecA_zero {l:List DE} {a:Int} (h:∀ e∈l,e.ea≠a):ecA l a=0:=by
 induction l with
 | nil=>rfl
 | cons e r ih =>
  rw[ecA_cons,if_neg (h e (by simp)),ih fun x hx=>h x (by simp[hx])]
  rfl
theorem set_split {α:Type} {l:List α} {i:Nat} {x:α} (h:l[i]?=some x):l=l.take i++x::l.drop (i+1)∧∀ y,l.set i y=l.take i++y::l.drop (i+1):=by
 have hl:=(List.getElem?_eq_some_iff.1 h).1
 have hx:=(List.getElem?_eq_some_iff.1 h).2
 have hd:l.drop i=x::l.drop (i+1):=by
  rw[← hx]
  exact List.drop_eq_getElem_cons hl
 refine⟨?_,fun y=>?_⟩
 ·rw[← hd,List.take_append_drop]
 ·rw[List.set_eq_take_append_cons_drop,if_pos hl]
theorem ec_pos {l:List DE} (h:qaf l=true) {e:DE} (he:e∈l):0<e.ea∧0<e.ec:=by
 have:=deOk_b (ddt_de h e he)
 omega
theorem ec_eq {l:List DE} (h:qaf l=true) {e:DE} (he:e∈l):ecA l e.ea=e.ec:=by
 simp only[qaf,Bool.and_eq_true,decide_eq_true_eq]at h
 have hp:=ddtR_pw h.2
 clear h
 induction l with
 | nil=>simp at he
 | cons x r ih =>
  rw[List.pairwise_cons]at hp
  rw[ecA_cons]
  rcases List.mem_cons.1 he with rfl | he2
  ·rw[if_pos rfl,ecA_zero fun y hy=>by have:=hp.1 y hy;omega]
   omega
  ·have:=hp.1 e he2
   rw[if_neg (by omega),ih he2 hp.2]
   omega
theorem ec_uniq {l:List DE} (h:qaf l=true) {e x:DE} (he:e∈l) (hx:x∈l) (hea:e.ea=x.ea):e=x:=by
 simp only[qaf,Bool.and_eq_true,decide_eq_true_eq]at h
 have hp:=ddtR_pw h.2
 clear h
 induction l with
 | nil=>simp at he
 | cons y r ih =>
  rw[List.pairwise_cons]at hp
  rcases List.mem_cons.1 he with h1 | he2 <;> rcases List.mem_cons.1 hx with h2 | hx2
  ·rw[h1,h2]
  ·have:=hp.1 x hx2
   rw[h1]at hea
   omega
  ·have:=hp.1 e he2
   rw[h2]at hea
   omega
  ·exact ih he2 hx2 hp.2
theorem ddT_has {l:List DE} (h:qaf l=true) {e:DE} (he:e∈l):ddT l e.ea=true∧l[ddP l e.ea]?=some e:=by
 cases hT:ddT l e.ea with
 | false=>exact absurd rfl (ddT_mem h hT e he)
 | true =>
  obtain⟨x,hx,hxa⟩:=ddT_some hT
  rw[hx,ec_uniq h (List.mem_of_getElem? hx) he hxa]
  exact⟨rfl,rfl⟩
theorem add_ec {l:List DE} (h:qaf l=true) {s a:Int} (ho:(qbz l s a).2=true) :
  0<a∧(∀ b,ecA (qbz l s a).1 b=ecA l b+if b=a then 1 else 0)∧sumEc (qbz l s a).1=sumEc l+1∧∀ e∈(qbz l s a).1,(∃ x∈l,x.ea=e.ea∧x.es=e.es∧(e.ea=a→e.es=s))∨(e.ea=a∧e.es=s∧ecA l a=0):=by
 unfold qbz at ho ⊢
 rw[if_neg (by simp[h])]at ho ⊢
 split at ho
 ·simp at ho
 ·rename_i hen
  rw[if_neg hen]
  have ha:0<a:=by
   have:=deOk_b (e:=⟨s,a,1⟩) (by simpa using hen)
   simp only at this
   omega
  refine⟨ha,?_⟩
  split at ho
  ·rename_i hT
   rw[if_pos hT]
   obtain⟨x,hx,hxa⟩:=ddT_some hT
   rw[hx]at ho ⊢
   simp only at ho ⊢
   split at ho
   ·simp at ho
   ·rename_i hc
    rw[if_neg hc]
    have hxs:x.es=s:=Classical.byContradiction fun e=>hc (.inl e)
    obtain⟨g1,g2⟩:=set_split hx
    simp only[g2]
    refine⟨fun b=>?_,?_,fun e he=>?_⟩
    ·rw[ecA_app,ecA_cons]
     conv=>rhs;rw[g1,ecA_app,ecA_cons]
     simp only[hxa]
     by_cases hb:a=b
     ·rw[if_pos hb,if_pos hb,if_pos hb.symm];omega
     ·rw[if_neg hb,if_neg hb,if_neg (Ne.symm hb)];omega
    ·rw[sumEc_app,sumEc]
     conv=>rhs;rw[g1,sumEc_app,sumEc]
     simp only
     omega
    ·rw[List.mem_append,List.mem_cons]at he
     have hxm:=List.mem_of_getElem? hx
     rcases he with he | rfl | he
     ·have hm:=List.mem_of_mem_take he
      exact .inl ⟨e,hm,rfl,rfl,fun q=>by rw[ec_uniq h hm hxm (by omega)];exact hxs⟩
     ·exact .inl ⟨x,hxm,rfl,rfl,fun _=>hxs⟩
     ·have hm:=List.mem_of_mem_drop he
      exact .inl ⟨e,hm,rfl,rfl,fun q=>by rw[ec_uniq h hm hxm (by omega)];exact hxs⟩
  ·rename_i hT
   rw[if_neg hT]
   split at ho
   ·simp at ho
   ·rename_i hl
    rw[if_neg hl]
    have hz:ecA l a=0:=ecA_zero (ddT_mem h (by simpa using hT))
    have hm:=ddT_mem h (a:=a) (by simpa using hT)
    simp only
    have g1:=List.take_append_drop (ddP l a) l
    refine⟨fun b=>?_,?_,fun e he=>?_⟩
    ·rw[ecA_app,ecA_cons]
     conv=>rhs;rw[← g1,ecA_app]
     simp only
     by_cases hb:a=b
     ·rw[if_pos hb,if_pos hb.symm];omega
     ·rw[if_neg hb,if_neg (Ne.symm hb)];omega
    ·rw[sumEc_app,sumEc]
     conv=>rhs;rw[← g1,sumEc_app]
     simp only
     omega
    ·rw[List.mem_append,List.mem_cons]at he
     rcases he with he | rfl | he
     ·have hx:=List.mem_of_mem_take he
      exact .inl ⟨e,hx,rfl,rfl,fun q=>absurd q (hm e hx)⟩
     ·exact .inr ⟨rfl,rfl,hz⟩
     ·have hx:=List.mem_of_mem_drop he
      exact .inl ⟨e,hx,rfl,rfl,fun q=>absurd q (hm e hx)⟩
theorem drop_ec {l:List DE} (h:qaf l=true) {a:Int} (ho:(qbg l a).2=true) :
  (∀ b,ecA (qbg l a).1 b=ecA l b-if b=a then 1 else 0)∧sumEc (qbg l a).1=sumEc l-1∧∀ e∈(qbg l a).1,∃ x∈l,x.ea=e.ea∧x.es=e.es:=by
 unfold qbg at ho ⊢
 rw[if_neg (by simp[h])]at ho ⊢
 split at ho
 ·simp at ho
 ·rename_i hT
  rw[if_neg hT]
  obtain⟨x,hx,hxa⟩:=ddT_some (by simpa using hT)
  rw[hx]at ho ⊢
  simp only at ho ⊢
  obtain⟨g1,g2⟩:=set_split hx
  split
  ·rename_i hc
   simp only
   refine⟨fun b=>?_,?_,fun e he=>?_⟩
   ·rw[ecA_app]
    conv=>rhs;rw[g1,ecA_app,ecA_cons]
    simp only[hxa,hc]
    by_cases hb:a=b
    ·rw[if_pos hb,if_pos hb.symm];omega
    ·rw[if_neg hb,if_neg (Ne.symm hb)];omega
   ·rw[sumEc_app]
    conv=>rhs;rw[g1,sumEc_app,sumEc]
    omega
   ·rw[List.mem_append]at he
    rcases he with he | he
    ·exact⟨e,List.mem_of_mem_take he,rfl,rfl⟩
    ·exact⟨e,List.mem_of_mem_drop he,rfl,rfl⟩
  ·simp only[g2]
   refine⟨fun b=>?_,?_,fun e he=>?_⟩
   ·rw[ecA_app,ecA_cons]
    conv=>rhs;rw[g1,ecA_app,ecA_cons]
    simp only[hxa]
    by_cases hb:a=b
    ·rw[if_pos hb,if_pos hb,if_pos hb.symm];omega
    ·rw[if_neg hb,if_neg hb,if_neg (Ne.symm hb)];omega
   ·rw[sumEc_app,sumEc]
    conv=>rhs;rw[g1,sumEc_app,sumEc]
    simp only
    omega
   ·rw[List.mem_append,List.mem_cons]at he
    rcases he with he | rfl | he
    ·exact⟨e,List.mem_of_mem_take he,rfl,rfl⟩
    ·exact⟨x,List.mem_of_getElem? hx,rfl,rfl⟩
    ·exact⟨e,List.mem_of_mem_drop he,rfl,rfl⟩
structure Cnt (l:List DE) (P:List PT):Prop where
 cnt:∀ a:Int,0<a→ecA l a=(ptN a P:Int)
 sum:∀ e∈l,∀ p∈P,p.pa=e.ea→p.ps=e.es
 tot:sumEc l=(nnN P:Int)
theorem ptN_pos {a:Int} {P:List PT}:0<ptN a P↔∃ p∈P,p.pa=a:=by
 unfold ptN
 rw[List.countP_pos_iff]
 simp
theorem cnt_of {c:CO} (hd:qaf c.ddt=true) (h1:cntOkB c=true) (h2:sumOkB c=true):Cnt c.ddt (qan c.sets):=by
 simp only[cntOkB,Bool.and_eq_true,List.all_eq_true,decide_eq_true_eq]at h1
 simp only[sumOkB,List.all_eq_true]at h2
 obtain⟨h1,h3⟩:=h1
 have hs:∀ p∈qan c.sets,0<p.pa→∃ e∈c.ddt,e.ea=p.pa∧e.es=p.ps:=fun p hp h0=>by
  have:=h2 p hp
  unfold ptSumB at this
  simp only[Bool.or_eq_true,decide_eq_true_eq,Bool.and_eq_true]at this
  rcases this with h | ⟨h4,h5⟩
  ·omega
  ·obtain⟨e,he,hea⟩:=ddT_some h4
   rw[he]at h5
   exact⟨e,List.mem_of_getElem? he,hea,by simpa using h5⟩
 refine⟨fun a ha=>?_,fun e he p hp hpe=>?_,h3⟩
 ·by_cases hx:∃ e∈c.ddt,e.ea=a
  ·obtain⟨e,he,rfl⟩:=hx
   rw[ec_eq hd he,← h1 e he]
   unfold refsB
   rw[if_pos ha]
  ·rw[ecA_zero fun e he hea=>hx ⟨e,he,hea⟩]
   have:¬ 0<ptN a (qan c.sets):=fun h=>by
    obtain⟨p,hp,hpa⟩:=ptN_pos.1 h
    obtain⟨e,he,hea,_⟩:=hs p hp (by omega)
    exact hx ⟨e,he,by omega⟩
   omega
 ·have:=(ec_pos hd he).1
  obtain⟨x,hx,hxa,hxs⟩:=hs p hp (by omega)
  rw[ec_uniq hd he hx (by omega)]
  exact hxs.symm
theorem cnt_to {c:CO} (hd:qaf c.ddt=true) (h:Cnt c.ddt (qan c.sets)):cntOkB c=true∧sumOkB c=true:=by
 constructor
 ·simp only[cntOkB,Bool.and_eq_true,List.all_eq_true,decide_eq_true_eq]
  refine⟨fun e he=>?_,h.tot⟩
  have hp:=(ec_pos hd he).1
  rw[← ec_eq hd he,h.cnt _ hp]
  unfold refsB
  rw[if_pos hp]
 ·simp only[sumOkB,List.all_eq_true]
  intro p hp
  unfold ptSumB
  by_cases h0:p.pa≤0
  ·simp[h0]
  ·have hn:0<ptN p.pa (qan c.sets):=ptN_pos.2 ⟨p,hp,rfl⟩
   have hc:=h.cnt p.pa (by omega)
   have hx:∃ e∈c.ddt,e.ea=p.pa:=Classical.byContradiction fun hx=>by
    rw[ecA_zero fun e he hea=>hx ⟨e,he,hea⟩]at hc
    omega
   obtain⟨e,he,hea⟩:=hx
   have hes:=h.sum e he p hp hea.symm
   obtain⟨g1,g2⟩:=ddT_has hd he
   rw[hea]at g1 g2
   rw[g1,g2]
   simp[hes]
theorem cnt_turn {l l1 l2:List DE} {P P':List PT} {old now:PT} (hd:qaf l=true) (h:Cnt l P) (hold:old∈P) (hn0:0≤now.pa) (ho0:0≤old.pa)
  (hc:∀ f:PT→Bool,P'.countP f+(if f old=true then 1 else 0)=P.countP f+(if f now=true then 1 else 0)) (hm:∀ p∈P',p∈P∨p=now)
  (h1:(now.pa=0∧l1=l)∨(now.pa≠0∧(qbz l now.ps now.pa).2=true∧l1=(qbz l now.ps now.pa).1))
  (h2:(old.pa=0∧l2=l1)∨(old.pa≠0∧(qbg l1 old.pa).2=true∧l2=(qbg l1 old.pa).1)):qaf l2=true∧Cnt l2 P':=by
 have a1:qaf l1=true∧(∀ b,0<b→ecA l1 b=ecA l b+if b=now.pa then 1 else 0)∧sumEc l1=sumEc l+(if 0<now.pa then 1 else 0)∧∀ e∈l1,(∃ x∈l,x.ea=e.ea∧x.es=e.es∧(0<now.pa→e.ea=now.pa→e.es=now.ps))∨(e.ea=now.pa∧e.es=now.ps∧ecA l now.pa=0∧0<now.pa):=by
  rcases h1 with⟨z,rfl⟩ | ⟨z,ho,rfl⟩
  ·refine⟨hd,fun b hb=>?_,?_,fun e he=>.inl ⟨e,he,rfl,rfl,fun q=>by omega⟩⟩
   ·rw[if_neg (by omega)];omega
   ·rw[if_neg (by omega)];omega
  ·obtain⟨g0,g1,g2,g3⟩:=add_ec hd ho
   refine⟨ddAdd_ok hd ho,fun b _=>g1 b,by rw[if_pos g0];exact g2,fun e he=>?_⟩
   rcases g3 e he with⟨x,hx,q1,q2,q3⟩ | ⟨q1,q2,q3⟩
   ·exact .inl ⟨x,hx,q1,q2,fun _=>q3⟩
   ·exact .inr ⟨q1,q2,q3,g0⟩
 obtain⟨b1,b2,b3,b4⟩:=a1
 have a2:qaf l2=true∧(∀ b,0<b→ecA l2 b=ecA l1 b-if b=old.pa then 1 else 0)∧sumEc l2=sumEc l1-(if 0<old.pa then 1 else 0)∧∀ e∈l2,∃ x∈l1,x.ea=e.ea∧x.es=e.es:=by
  rcases h2 with⟨z,rfl⟩ | ⟨z,ho,rfl⟩
  ·refine⟨b1,fun b hb=>?_,?_,fun e he=>⟨e,he,rfl,rfl⟩⟩
   ·rw[if_neg (by omega)];omega
   ·rw[if_neg (by omega)];omega
  ·obtain⟨g1,g2,g3⟩:=drop_ec b1 ho
   exact⟨ddDrop_ok b1 ho,fun b _=>g1 b,by rw[if_pos (by omega)];exact g2,g3⟩
 obtain⟨d1,d2,d3,d4⟩:=a2
 refine⟨d1,fun a ha=>?_,fun e he p hp hpe=>?_,?_⟩
 ·have q:=hc fun p=>decide (p.pa=a)
  simp only[decide_eq_true_eq]at q
  have k1:=h.cnt a ha
  rw[d2 a ha,b2 a ha,k1]
  unfold ptN
  split at q <;> split at q <;> split <;> split <;> omega
 ·obtain⟨x,hx,x1,x2⟩:=d4 e he
  have hxp:0<x.ea:=(ec_pos b1 hx).1
  rcases hm p hp with hp | rfl
  ·rcases b4 x hx with⟨y,hy,y1,y2,_⟩ | ⟨y1,y2,y3,y4⟩
   ·rw[← x2,← y2]
    exact h.sum y hy p hp (by omega)
   ·have k1:=h.cnt now.pa y4
    have k2:0<ptN now.pa P:=ptN_pos.2 ⟨p,hp,by omega⟩
    omega
  ·rcases b4 x hx with⟨y,hy,y1,y2,y3⟩ | ⟨y1,y2,y3,y4⟩
   ·rw[← x2]
    exact(y3 (by omega) (by omega)).symm
   ·rw[← x2]
    exact y2.symm
 ·have q:=hc fun p=>decide (0<p.pa)
  simp only[decide_eq_true_eq]at q
  have k1:=h.tot
  rw[d3,b3,k1]
  unfold nnN
  split at q <;> split at q <;> (try simp only[*,if_true,if_false]) <;> omega
theorem coreOk_iff {c:CO}:qah c=true↔(0≤c.txg∧c.txg≤1000000∧qaf c.ddt=true∧c.parts.length≤8∧qbq 12 c.safe=true∧0≤c.logn∧c.logn≤8∧c.sets.all csOkB=true∧c.parts.all qbb=true∧qbe (c.sets.map csB)=true∧cntOkB c=true∧sumOkB c=true):=by
 unfold qah
 simp only[Bool.and_eq_true,decide_eq_true_eq,and_assoc]
theorem refs1 (more:Bool) (p:PT) (l:List DE) (b:Bool):(refsL more (oneM p) (l,b,true))=if p.pa=0 then (l,b,true) else ((refB more l p).1,true,(refB more l p).2):=by
 rw[oneM_refs]
 simp only[refsL,Bool.true_and]
theorem set_csB {l:List CS} {k:Nat} {s s':CS} (h:l[k]?=some s) (he:csB s'=csB s):(l.set k s').map csB=l.map csB:=by
 rw[List.map_set,he]
 apply List.ext_getElem?
 intro j
 rw[List.getElem?_set]
 split
 ·rename_i hj
  subst hj
  split
  ·rw[List.getElem?_map,h];rfl
  ·rename_i hn
   rw[List.getElem?_eq_none (by omega)]
 ·rfl
theorem turnG_core {d x:DK} {c:CO} (hT:CoT c) (hc:qah c=true) {k i:Nat} {s:CS} (hs:c.sets[k]?=some s) (hi:i<8) {now:PT} (hn:ptOkB now=true):qah (turnG d x c k i s (s.map[i]?.getD zPT) now).2.1=true:=by
 have hs8:=hT.m8 s (List.mem_of_getElem? hs)
 obtain⟨old,ho⟩:∃ old,s.map[i]?=some old:=⟨_,List.getElem?_eq_getElem (by omega)⟩
 rw[ho,Option.getD_some]
 unfold turnG
 simp only[refs1]
 obtain⟨h1,h2,h3,h4,h5,h6,h7,h8,h9,h10,h11,h12⟩:=coreOk_iff.1 hc
 have hcs:=h8
 rw[List.all_eq_true]at hcs
 have hok:=hcs s (List.mem_of_getElem? hs)
 have hmp:∀ p∈s.map,ptOkB p=true:=by
  simp only[csOkB,Bool.and_eq_true,List.all_eq_true]at hok
  exact hok.2
 have hp0:∀ p:PT,ptOkB p=true→0≤p.pa:=fun p hp=>by
  unfold ptOkB at hp
  split at hp
  ·omega
  ·simp only[Bool.and_eq_true,decide_eq_true_eq]at hp
   omega
 have hoP:old∈qan c.sets:=List.mem_flatMap.2 ⟨s,List.mem_of_getElem? hs,List.mem_of_getElem? ho⟩
 have hC:=cnt_of h3 h11 h12
 generalize hl1:(if now.pa=0 then (c.ddt,c.dirty,true) else ((refB true c.ddt now).1,true,(refB true c.ddt now).2))=A
 obtain⟨l1,b1,k1⟩:=A
 simp only
 generalize hl2:(if old.pa=0 then (l1,b1,true) else ((refB false l1 old).1,true,(refB false l1 old).2))=B
 obtain⟨l2,b2,k2⟩:=B
 simp only
 by_cases hf:k1=false∨k2=false
 ·rw[if_pos hf]
  exact hc
 ·rw[if_neg hf]
  have e1:k1=true:=by cases k1 <;> simp_all
  have e2:k2=true:=by cases k2 <;> simp_all
  subst e1 e2
  have q1:(now.pa=0∧l1=c.ddt)∨(now.pa≠0∧(qbz c.ddt now.ps now.pa).2=true∧l1=(qbz c.ddt now.ps now.pa).1):=by
   split at hl1
   ·rename_i h
    simp only[Prod.mk.injEq]at hl1
    exact .inl ⟨h,hl1.1.symm⟩
   ·rename_i h
    simp only[Prod.mk.injEq,refB,if_true]at hl1
    exact .inr ⟨h,hl1.2.2,hl1.1.symm⟩
  have q2:(old.pa=0∧l2=l1)∨(old.pa≠0∧(qbg l1 old.pa).2=true∧l2=(qbg l1 old.pa).1):=by
   split at hl2
   ·rename_i h
    simp only[Prod.mk.injEq]at hl2
    exact .inl ⟨h,hl2.1.symm⟩
   ·rename_i h
    simp only[Prod.mk.injEq,refB,Bool.false_eq_true,if_false]at hl2
    exact .inr ⟨h,hl2.2.2,hl2.1.symm⟩
  obtain⟨d1,d2⟩:=cnt_turn (P':=qan (c.sets.set k ⟨s.name,s.kind,s.frm,s.map.set i now,s.home,true⟩)) h3 hC hoP (hp0 now hn) (hp0 old (hmp old (List.mem_of_getElem? ho))) (fun f=>countP_pts f hs ho rfl) (fun p hp=>mem_pts hs rfl hp) q1 q2
  obtain⟨d3,d4⟩:=cnt_to (c:=⟨c.txg,c.sets.set k ⟨s.name,s.kind,s.frm,s.map.set i now,s.home,true⟩,l2,c.parts,b2,c.safe,c.logn⟩) d1 d2
  refine coreOk_iff.2 ⟨h1,h2,d1,h4,h5,h6,h7,?_,h9,?_,d3,d4⟩
  ·rw[List.all_eq_true]
   intro t ht
   rcases List.mem_or_eq_of_mem_set ht with ht | rfl
   ·exact hcs t ht
   ·simp only[csOkB,Bool.and_eq_true,List.all_eq_true]at hok ⊢
    refine⟨hok.1,fun p hp=>?_⟩
    rcases List.mem_or_eq_of_mem_set hp with hp | rfl
    ·exact hok.2 p hp
    ·exact hn
  ·simp only
   rw[set_csB (s':=⟨s.name,s.kind,s.frm,s.map.set i now,s.home,true⟩) hs rfl]
   exact h10
theorem turnB_core {d:DK} {c:CO} (hT:CoT c) (hc:qah c=true) (k:Nat) {i:Nat} (hi:i<8) (text:List UInt8):qah (turnB d c k i text).2.1=true:=by
 unfold turnB
 cases hs:c.sets[k]? with
 | none=>exact hc
 | some s =>
  simp only
  split
  ·exact turnG_core hT hc hs hi (by decide)
  ·split
   ·exact hc
   ·split
    ·exact hc
    ·split
     ·exact hc
     ·exact turnG_core hT hc hs hi (blk_ok _ _ _)
end Go.Av.F

end
section
namespace Go.Av.F
open Go Go.Av Go.Proofs Go.Proofs.Tryz
theorem sAddO (l:List DE) (sum at':Int) (hl:l.length≤1048576) (hok:qaf l=true) :
  ACall prog 106 [.lst 3 (l.map DE.row),.int .i64 sum,.int .i64 at'] [] (fun r L'=>r=.tup [.sl 905 0 (qbz l sum at').1.length,.bool (qbz l sum at').2]∧L'=[(905,deOb (qbz l sum at').1)]):=by
 refine(sAddK l sum at' hl _ rfl).can ?_
 rintro r L' (⟨h,_⟩ | ⟨id,rfl | rfl,rfl,rfl⟩)
 ·simp[hok]at h
 ·exact⟨[(5,905)],by simp,by simp,by simp,by simp,by simp,by simp[obOf]⟩
 ·exact⟨[(77,905)],by simp,by simp,by simp,by simp,by simp,by simp[obOf]⟩
theorem sDropO (l:List DE) (at':Int) (hl:l.length≤1048576) (hok:qaf l=true) :
  ACall prog 107 [.lst 3 (l.map DE.row),.int .i64 at'] [] (fun r L'=>r=.tup [.sl 905 0 (qbg l at').1.length,.bool (qbg l at').2]∧L'=[(905,deOb (qbg l at').1)]):=by
 refine(sDropK l at' hl _ rfl).can ?_
 rintro r L' (⟨h,_⟩ | ⟨id,rfl | rfl,rfl,rfl⟩)
 ·simp[hok]at h
 ·exact⟨[(5,905)],by simp,by simp,by simp,by simp,by simp,by simp[obOf]⟩
 ·exact⟨[(47,905)],by simp,by simp,by simp,by simp,by simp,by simp[obOf]⟩
theorem refB_okA (more:Bool) {l:List DE} (h:qaf l=true) (p:PT):qaf (refB more l p).1=true:=by
 cases ho:(refB more l p).2 with
 | true=>exact refB_ok h ho
 | false =>
  unfold refB qbz qbg at ho ⊢
  rw[if_neg (c:=qaf l=false) (by simp[h]),if_neg (c:=qaf l=false) (by simp[h])]at ho ⊢
  repeat' split at ho
  all_goals simp_all
theorem refsL_okA (more:Bool):∀ (m:List PT) {x:List DE×Bool×Bool},qaf x.1=true→qaf (refsL more m x).1=true
 | [],x,h=>h
 | p::q,x,h=>by
  simp only[refsL]
  split
  ·exact refsL_okA more q h
  ·exact refsL_okA more q (refB_okA more h p)
@[simp] def cOb (c:CO) (a b e f:Nat):List (Nat×Ob):=[(a,kcs c.sets),(b,deOb c.ddt),(e,kpt c.parts),(f,kin c.safe)]
theorem sRefsO (c:CO) (m:List PT) (h8:m.length=8) (more:Bool) (hd:c.ddt.length≤1000000) (hok:qaf c.ddt=true) :
  ACall prog 88 [coreA c 1000 1001 1002 1003,.agg (m.flatMap PT.row),.bool more] (cOb c 1000 1001 1002 1003)
   (fun r L'=>r=.tup [coreA ⟨c.txg,c.sets,(refsL more m (c.ddt,c.dirty,true)).1,c.parts,(refsL more m (c.ddt,c.dirty,true)).2.1,c.safe,c.logn⟩ 1000 950 1002 1003,.bool (refsL more m (c.ddt,c.dirty,true)).2.2] ∧
    L'=[(1000,kcs c.sets),(950,deOb (refsL more m (c.ddt,c.dirty,true)).1),(1002,kpt c.parts),(1003,kin c.safe)]):=by
 obtain⟨X,hX⟩:∃ X,refsL more m (c.ddt,c.dirty,true)=X:=⟨_,rfl⟩
 rw[hX]
 refine acx func88 [(8,[zI 0,zJ 1 [3] [],zJ 2 [] [3],zJ 3 [] [3],zJ 4 [] [3],zJ 5 [4] [3],zJ 6 [] [3,4],zJ 7 [] [3,4],zJ 8 [] [3,4],zJ 9 [4] [3,4],zI 10,zI 11,zI 12,zI 13,zI 14,zI 15,zI 16]),(9,[zI 0,zJ 1 [3] [],zJ 2 [] [3],zJ 3 [] [3],zJ 4 [] [3],zJ 5 [4] [3],zI 6,zI 7,zI 8,zI 9,zI 10,zI 11,zI 12])] ntmps88 rfl rfl rfl ?_
 simp -implicitDefEqProofs [coreA,sum3 h8,cOb]
 refine ev_lp (X:=Nat×(List DE×Bool×Bool)) [2,3,4,6,7,8,9] [(1000,1000),(3,3),(4,4),(6,6),(1001,950),(1002,1002),(1003,1003)] (fun x=>[(8,.bool x.2.2.2),(9,.int .i64 x.1)])
  (fun x=>[(3,⟨7,[[.int .i64 c.txg,.sl 1000 0 c.sets.length,.sl 950 0 x.2.1.length,.sl 1002 0 c.parts.length,.bool x.2.2.1,.sl 1003 0 c.safe.length,.int .i64 c.logn]]⟩),(950,deOb x.2.1)]) (fun x=>8-x.1)
  (fun x=>x.1≤8∧x.2.1.length≤1000000+x.1∧qaf x.2.1=true∧refsL more (m.drop x.1) x.2=X) (0,(c.ddt,c.dirty,true)) ⟨by simp,by simp only;omega,hok,by simpa using hX⟩ ?_ (he:=by simp[obOf])
 rintro⟨i,l,dt,ok⟩ ⟨hi,hl,ho,hd2⟩
 simp only at hi hl ho hd2
 cases hr:m.drop i with
 | nil =>
  have:=dropn hr
  rw[hr]at hd2
  have hie:i=8:=by omega
  subst hie
  simp only[refsL]at hd2
  subst hd2
  simp -implicitDefEqProofs [obOf]
 | cons p q =>
  obtain⟨k1,e0,e1,k3⟩:=dropc hr
  rw[hr]at hd2
  simp only[refsL]at hd2
  have hi8:i<8:=by omega
  have hli:(i:Int)<8:=by omega
  have e2:=i64w ((i:Int)+1) (by omega) (by omega)
  have f0:=flat_cell e1 (k:=0) (by omega)
  have f1:=flat_cell e1 (k:=1) (by omega)
  have c1:=sAddO l p.ps p.pa (by omega) ho
  have c2:=sDropO l p.pa (by omega) ho
  have hrl:=refB_len more l p
  have hro:=refB_okA more ho p
  have f0':(m.flatMap PT.row)[i * 3]?=some (.int .i64 p.pa):=by simpa [PT.row]using f0
  have f1':(m.flatMap PT.row)[i * 3+1]?=some (.int .i64 p.ps):=by simpa [PT.row]using f1
  have hN:∀ (x:List DE×Bool×Bool),refsL more q x=X→x.1.length≤1000000+(i+1)→qaf x.1=true→(i+1≤8∧x.1.length≤1000000+(i+1)∧qaf x.1=true∧refsL more (m.drop (i+1)) x=X):=fun x h1 h2 h3=>⟨by omega,h2,h3,by rw[k3];exact h1⟩
  simp -implicitDefEqProofs [obOf,hli,f0',f1']
  refine⟨by omega,fun q1=>?_,fun q1=>?_⟩
  ·rw[if_pos q1]at hd2
   exact nx (i+1,l,dt,ok) [(1000,1000),(3,3),(4,4),(6,6),(950,950),(1002,1002),(1003,1003)] (hN _ hd2 (by simp only;omega) ho) (by simp only;omega) (h4:=by simp[obOf,e2])
  ·rw[if_neg q1]at hd2
   have hrl2:(refB more l p).1.length≤1000000+(i+1):=by omega
   cases more with
   | true =>
    have hrb:refB true l p=qbz l p.ps p.pa:=rfl
    rw[hrb]at hd2 hrl2 hro
    generalize qbz l p.ps p.pa=Y at *
    obtain⟨yl,yo⟩:=Y
    simp -implicitDefEqProofs
    refine⟨by omega,by omega,?_⟩
    refine callA_vw [] (by kernel_rfl) c1 (by simp[vwOk,mtA,deOb,qap]) (by simp) trivial (by simp) (by simp) ?_
    rintro r L' ⟨rfl,rfl⟩
    refine⟨by simp,by simpa [deOb]using noL_de yl,[(905,906)],⟨by simp,by simp,by simp,by simp,by simp⟩,?_⟩
    simp only[qae]
    cases ok
    all_goals
     simp -implicitDefEqProofs
     exact nx (i+1,yl,true,_) [(1000,1000),(3,3),(4,4),(6,6),(906,950),(1002,1002),(1003,1003)] (hN _ hd2 hrl2 hro) (by simp only;omega) (h4:=by simp[obOf,e2])
   | false =>
    have hrb:refB false l p=qbg l p.pa:=rfl
    rw[hrb]at hd2 hrl2 hro
    generalize qbg l p.pa=Y at *
    obtain⟨yl,yo⟩:=Y
    simp -implicitDefEqProofs
    refine⟨by omega,?_⟩
    refine callA_vw [] (by kernel_rfl) c2 (by simp[vwOk,mtA,deOb,qap]) (by simp) trivial (by simp) (by simp) ?_
    rintro r L' ⟨rfl,rfl⟩
    refine⟨by simp,by simpa [deOb]using noL_de yl,[(905,906)],⟨by simp,by simp,by simp,by simp,by simp⟩,?_⟩
    simp only[qae]
    cases ok
    all_goals
     simp -implicitDefEqProofs
     exact nx (i+1,yl,true,_) [(1000,1000),(3,3),(4,4),(6,6),(906,950),(1002,1002),(1003,1003)] (hN _ hd2 hrl2 hro) (by simp only;omega) (h4:=by simp[obOf,e2])
theorem sBlockQ (d:DK) (hd:DkT d) (c:CO) (h:CoT c) (text:List UInt8) (ht:text.length≤1048576) :
  ACall prog 89 [.agg d.row,coreA c 1000 1001 1002 1003,.str text] (cOb c 1000 1001 1002 1003) (fun r L'=>r=.tup [.agg (blockB d c text).1.row,.int .i64 (blockB d c text).2.1,.int .i64 (blockB d c text).2.2]∧L'=cOb c 1000 1001 1002 1003):=by
 obtain⟨R,hR⟩:∃ R,blockB d c text=R:=⟨_,rfl⟩
 rw[hR]
 unfold blockB at hR
 have hl:=hd.l0
 have c1:=sFindC d hd c.ddt text h.ddt (by simp[maxLen];omega)
 have c2:=sMayC c h d.s0.length (by omega) (by omega)
 have c3:=sFreeO c h d.s0.length (by omega)
 have hmf:mayB c d.s0.length=true→0<(freeB c d.s0.length).length:=fun hm=>by
  simp only[mayB,Bool.and_eq_true,decide_eq_true_eq]at hm
  omega
 have c4:=sBlkWriteC d hd ((freeB c d.s0.length).headD 0) text ht
 have hcons:∀ l:List Int,0<l.length→∃ fr,l=l.headD 0::fr:=fun l hl=>by
  cases l with
  | nil=>simp at hl
  | cons x r=>exact⟨r,rfl⟩
 have hfe:=fun hm=>hcons _ (hmf hm)
 generalize findDB d c.ddt text=a at *
 generalize mayB c d.s0.length=m at *
 generalize freeB c d.s0.length=l at *
 generalize l.headD 0=b at *
 generalize qat d b text=x at *
 obtain⟨xd,xo⟩:=x
 simp only[DK.row,CO.row]at c1 c2 c3 c4
 refine acx func89 [] ntmps89 rfl rfl rfl ?_
 simp -implicitDefEqProofs [DK.row,coreA,cOb]
 refine c1.view (by simp[vwOk,mtA,deOb,qap]) ?_
 by_cases h0:0<a
 ·rw[if_pos h0]at hR
  subst hR
  simp -implicitDefEqProofs [h0]
 ·rw[if_neg h0]at hR
  simp -implicitDefEqProofs [h0]
  refine c2.view (by simp[vwOk,mtA,kcs,deOb,kpt,kin,qap,cs_cl]) ?_
  cases m with
  | false =>
   rw[if_pos rfl]at hR
   subst hR
   simp -implicitDefEqProofs
  | true =>
   rw[if_neg (by simp)]at hR
   obtain⟨fr,hf⟩:=hfe rfl
   subst hf
   ·simp -implicitDefEqProofs
    refine callA_vw [] (by kernel_rfl) c3 (by simp[vwOk,mtA,kcs,deOb,kpt,kin,qap,cs_cl]) (by simp) trivial (by simp) (by simp) ?_
    rintro r L' ⟨rfl,rfl⟩
    refine⟨by simp,by simp[kin,qaw],[(900,33)],⟨by simp,by simp,by simp,by simp,by simp⟩,?_⟩
    simp only[qae]
    simp -implicitDefEqProofs [kin,qaw]
    refine c4.call ?_
    cases xo with
    | false =>
     rw[if_pos rfl]at hR
     subst hR
     simp -implicitDefEqProofs
    | true =>
     rw[if_neg (by simp)]at hR
     subst hR
     simp -implicitDefEqProofs
@[simp] def dOb (d:DK):List (Nat×Ob):=[(911,strOb d.s0),(912,strOb d.s1),(913,ltOb d.late)]
def dA (d:DK):AV:=.agg [.sl 911 0 d.s0.length,.sl 912 0 d.s1.length,.sl 913 0 d.late.length]
theorem sFlushO (d:DK) (h:DkT d) (hok:dOkB d=true):ACall prog 81 [.agg d.row] [] (fun r L'=>r=dA (qbm d)∧L'=dOb (qbm d)):=by
 refine(sFlushK d h _ rfl).canN ?_
 rintro r L' (⟨hz,_⟩ | ⟨rfl,hl,rfl⟩)
 ·have h1:=(flush_ok hok).2.1
  have h2:=dOk_len hok
  rw[hz]at h1
  simp[zDK]at h1
  omega
 ·refine⟨[(913,3)],[(7,911),(12,912)],by simp,by simp,by simp,by simp[N0],dA (qbm d),?_,rfl,?_⟩
  ·rw[dA,hl]
   simp
   exact phsN_agg (.cons (phsN_refl _ _) (.cons (phsN_refl _ _) (.cons (phsN_nil 913) .nil)))
  ·simp[dOb,obOf,strOb,hl,N0,ltOb]
theorem sWriteO (d:DK) (h:DkT d) (side at':Int) (text:List UInt8) (ht:text.length≤1048576) (hz:(qbj d side at' text).2=true) :
  ACall prog 114 [.agg d.row,.int .i64 side,.int .i64 at',.str text] [] (fun r L'=>r=.tup [dA (qbj d side at' text).1,.bool true]∧L'=dOb (qbj d side at' text).1):=by
 refine(sWriteK d h side at' text ht _ rfl).can ?_
 rintro r L' (⟨h0,_⟩ | ⟨id,hid,rfl,rfl⟩)
 ·rw[h0]at hz
  simp at hz
 ·rcases hid with rfl | rfl
  ·exact⟨[(7,911),(12,912),(17,913)],by simp,by simp,by simp,by simp,by simp[dA,hz],by simp[obOf]⟩
  ·exact⟨[(7,911),(12,912),(37,913)],by simp,by simp,by simp,by simp,by simp[dA,hz],by simp[obOf]⟩
theorem sBlkWriteO (d:DK) (h:DkT d) (at':Int) (text:List UInt8) (ht:text.length≤1048576) (hz:(qat d at' text).2=true) :
  ACall prog 92 [.agg d.row,.int .i64 at',.str text] [] (fun r L'=>r=.tup [dA (qat d at' text).1,.bool true]∧L'=dOb (qat d at' text).1):=by
 obtain⟨R,hR⟩:∃ R,qat d at' text=R:=⟨_,rfl⟩
 rw[hR]at hz ⊢
 unfold qat at hR
 have c1:=sDiskOkC d h
 have c3:=sWriteC d h 0 at' text ht
 simp only[DK.row]at c1
 have h2:=h.l2
 refine acx func92 [] ntmps92 rfl rfl rfl ?_
 simp -implicitDefEqProofs [DK.row]
 refine c1.call ?_
 cases hok:dOkB d with
 | false =>
  rw[if_pos hok]at hR
  rw[← hR]at hz
  simp at hz
 | true =>
  rw[if_neg (by simp[hok])]at hR
  by_cases hl:598<d.late.length
  ·rw[if_pos hl]at hR
   rw[← hR]at hz
   simp at hz
  ·rw[if_neg hl]at hR
   have hl':¬ (598:Int)<d.late.length:=by omega
   have hT:=dWrite_T (side:=0) (at':=at') (text:=text) h ht (by omega)
   have c4:=sWriteO (qbj d 0 at' text).1 hT 1 at' text ht
   generalize qbj d 0 at' text=x at *
   obtain⟨x,ok⟩:=x
   simp only[DK.row]at c3 c4 hR
   simp -implicitDefEqProofs [hl']
   refine c3.call ?_
   cases ok with
   | false =>
    rw[if_pos rfl]at hR
    rw[← hR]at hz
    simp at hz
   | true =>
    rw[if_neg (by simp)]at hR
    subst hR
    have c4:=c4 hz
    simp -implicitDefEqProofs
    refine qac [] (by kernel_rfl) c4 (by simp) (by simp) trivial (by simp) (by simp) ?_
    rintro r L' ⟨rfl,rfl⟩
    refine⟨[(911,911),(912,912),(913,913)],⟨by simp,by simp,by simp,by simp,by simp⟩,?_⟩
    simp only[qae]
    simp -implicitDefEqProofs [dA]
@[simp] theorem oneA_any1:oneA .any1=true:=rfl
theorem impA_one {a:AV} (h:oneA a=true):impA a .any1:=fun _ _ _ _ hr=>.any1 _ _ (oneA_one hr h)
def tops (n:Int):AV:=.tup [.agg [.any1,.any1,.any1],.agg [.any1,.any1,.any1,.any1,.any1,.any1,.any1],.int .i64 n]
theorem impA_tops {a b c d e f g h i j:AV} (n:Int) (hz:([a,b,c,d,e,f,g,h,i,j].all oneA)=true):impA (.tup [.agg [a,b,c],.agg [d,e,f,g,h,i,j],.int .i64 n]) (tops n):=by
 simp only[List.all_cons,List.all_nil,Bool.and_eq_true]at hz
 obtain⟨h1,h2,h3,h4,h5,h6,h7,h8,h9,h10,_⟩:=hz
 exact impA_tu (.cons (impA_ag (.cons (impA_one h1) (.cons (impA_one h2) (.cons (impA_one h3) .nil)))) (.cons (impA_ag (.cons (impA_one h4) (.cons (impA_one h5) (.cons (impA_one h6) (.cons (impA_one h7) (.cons (impA_one h8) (.cons (impA_one h9) (.cons (impA_one h10) .nil)))))))) (.cons (qaz _) .nil)))
def cQ (I:List (Nat×Nat×Nat×Nat)) (X:DK×CO×Int) (r:AV) (L':List (Nat×Ob)):Prop:=∃ r2,impA r r2 ∧
 ((X.2.2=0∧∃ a b e f,(a,b,e,f)∈I∧r2=.tup [.agg X.1.row,coreA X.2.1 a b e f,.int .i64 0]∧L'=cOb X.2.1 a b e f)∨(X.2.2≠0∧r2=tops X.2.2∧L'=[]))
theorem cQ_no {I:List (Nat×Nat×Nat×Nat)} {X:DK×CO×Int} (h:X.2.2≠0) {a b c d e f g p i j:AV} (hz:([a,b,c,d,e,f,g,p,i,j].all oneA)=true:=by simp):cQ I X (.tup [.agg [a,b,c],.agg [d,e,f,g,p,i,j],.int .i64 X.2.2]) []:=⟨_,impA_tops _ hz,.inr ⟨h,rfl,rfl⟩⟩
theorem cQ_yes {I:List (Nat×Nat×Nat×Nat)} {d:DK} {c:CO} (a b e f:Nat) (hI:(a,b,e,f)∈I):cQ I (d,c,0) (.tup [.agg d.row,coreA c a b e f,.int .i64 0]) (cOb c a b e f):=⟨_,qaz _,.inl ⟨rfl,a,b,e,f,hI,rfl,rfl⟩⟩
def cR (X:DK×CO×Int) (r:AV) (L':List (Nat×Ob)):Prop:=(X.2.2=0∧r=.tup [.agg X.1.row,coreA X.2.1 901 902 903 904,.int .i64 0]∧L'=cOb X.2.1 901 902 903 904)∨(X.2.2≠0∧r=tops X.2.2∧L'=[])
theorem cQ_can {f:Nat} {args:List AV} {I:List (Nat×Nat×Nat×Nat)} {X:DK×CO×Int} (h:ACall prog f args [] (cQ I X)) (hI:∀ x∈I,[x.1,x.2.1,x.2.2.1,x.2.2.2].Nodup):ACall prog f args [] (cR X):=by
 refine(h.imp (R':=fun r L'=>(X.2.2=0∧∃ a b e f,(a,b,e,f)∈I∧r=.tup [.agg X.1.row,coreA X.2.1 a b e f,.int .i64 0]∧L'=cOb X.2.1 a b e f)∨(X.2.2≠0∧r=tops X.2.2∧L'=[])) fun r L' ⟨r2,h1,h2⟩=>⟨r2,h1,h2⟩).can ?_
 rintro r L' (⟨h0,a,b,e,f,hm,rfl,rfl⟩ | ⟨h0,rfl,rfl⟩)
 ·have hn:=hI _ hm
  simp only[List.nodup_cons,List.mem_cons,List.not_mem_nil,or_false,not_or,List.nodup_nil,not_false_eq_true,and_true]at hn
  obtain⟨⟨n1,n2,n3⟩,⟨n4,n5⟩,n6⟩:=hn
  refine⟨[(a,901),(b,902),(e,903),(f,904)],?_,by simp,by simp,by simp[n1,n2,n3,n4,n5,n6],.inl ⟨h0,?_,?_⟩⟩
  ·simp[cOb,n1,n2,n3,n4,n5,n6,Ne.symm n1,Ne.symm n2,Ne.symm n3,Ne.symm n4,Ne.symm n5,Ne.symm n6]
  ·simp[coreA,DK.row,n1,n2,n3,n4,n5,n6,Ne.symm n1,Ne.symm n2,Ne.symm n3,Ne.symm n4,Ne.symm n5,Ne.symm n6]
  ·simp[cOb,obOf,n1,n2,n3,n4,n5,n6,Ne.symm n1,Ne.symm n2,Ne.symm n3,Ne.symm n4,Ne.symm n5,Ne.symm n6]
 ·exact⟨[],by simp,by simp,by simp,by simp,.inr ⟨h0,by simp[tops],by simp⟩⟩
theorem sTurnQ (d:DK) (hd:DkT d) (c:CO) (h:CoT c) (hm:CoM c) (hdo:qaf c.ddt=true) (k i:Nat) (hk:k<c.sets.length) (hi:i<8) (text:List UInt8) (ht:text.length≤1048576) (hx:0≤c.txg∧c.txg≤1000000) :
  ACall prog 56 [.agg d.row,.agg c.row,.int .i64 k,.int .i64 i,.str text] [] (cR (turnB d c k i text)):=by
 refine cQ_can (I:=[(8,12,17,22),(8,952,17,22)]) ?_ (by simp)
 obtain⟨R,hR⟩:∃ R,turnB d c k i text=R:=⟨_,rfl⟩
 rw[hR]
 unfold turnB at hR
 obtain⟨s,e0⟩:∃ s,c.sets[k]=s:=⟨_,rfl⟩
 have e1:c.sets[k]?=some s:=by rw[← e0];exact List.getElem?_eq_getElem hk
 have h8:=h.m8 s (List.mem_of_getElem? e1)
 obtain⟨old,f1⟩:∃ p,s.map[i]?=some p:=⟨_,List.getElem?_eq_getElem (by omega)⟩
 rw[e1]at hR
 simp only[f1,Option.getD_some]at hR
 have ck:=sKCopyO c h
 have cb:=sBlockQ d hd c h text ht
 simp only[CO.row]at ck
 simp only[DK.row,coreA,cOb]at cb
 have hki:(k:Int)<c.sets.length:=by omega
 have hi8:(i:Int)<8:=by omega
 refine acx func56 [(6,[zJ 0 [5] [],zJ 1 [6] [5],zJ 2 [] [6],zI 3,zI 4]),(10,[zJ 0 [5] [],zJ 1 [6] [5],zJ 2 [] [5,6],zJ 3 [] [6],zI 4,zI 5]),(14,[zJ 0 [15] [],zJ 1 [6] [15],zJ 2 [] [6],zI 3,zI 4]),(18,[zJ 0 [5] [],zJ 1 [6] [5],zJ 2 [] [6],zI 3,zI 4]),(19,[zI 0,zJ 1 [21] [],zJ 2 [] [21],zJ 3 [] [21],zJ 4 [14] [21],zJ 5 [8] [14],zJ 6 [] [14],zI 7,zI 8]),(21,[zJ 0 [15] [],zJ 1 [21] [15],zJ 2 [] [21],zI 3,zI 4])] ntmps56 rfl rfl rfl ?_
 simp -implicitDefEqProofs [DK.row,CO.row]
 refine qac [] (by kernel_rfl) ck (by simp) (by simpa [CO.row]using co_cl c) trivial (by simp) (by simp) ?_
 rintro r L' ⟨rfl,rfl⟩
 refine⟨[(8,8),(12,12),(17,17),(22,22)],⟨by simp,by simp,by simp,by simp,by simp⟩,?_⟩
 simp only[qae]
 have hok:∀ m:List PT,m.length=8→∀ (c2:CO) (more:Bool),c2.ddt.length≤1000000→qaf c2.ddt=true→ACall prog 88 [coreA c2 1000 1001 1002 1003,.agg (m.flatMap PT.row),.bool more] (cOb c2 1000 1001 1002 1003)
   (fun r L'=>r=.tup [coreA ⟨c2.txg,c2.sets,(refsL more m (c2.ddt,c2.dirty,true)).1,c2.parts,(refsL more m (c2.ddt,c2.dirty,true)).2.1,c2.safe,c2.logn⟩ 1000 950 1002 1003,.bool (refsL more m (c2.ddt,c2.dirty,true)).2.2] ∧
    L'=[(1000,kcs c2.sets),(950,deOb (refsL more m (c2.ddt,c2.dirty,true)).1),(1002,kpt c2.parts),(1003,kin c2.safe)]):=fun m h8 c2 more h1 h2=>sRefsO c2 m h8 more h1 h2
 by_cases ht0:text=[]
 ·rw[if_pos ht0]at hR
  simp -implicitDefEqProofs [coreA,hki,hk,e0,kcs,hi8,cs_map s f1,ht0]
  refine⟨by omega,?_⟩
  obtain⟨A,hA⟩:∃ A,refsL true (oneM zPT) (c.ddt,c.dirty,true)=A:=⟨_,rfl⟩
  have r1:=hok (oneM zPT) rfl c true (by have:=hm.ddt;omega) hdo
  rw[hA]at r1
  have hAl:A.1.length≤1008:=by
   have:=refsL_len true (oneM zPT) (c.ddt,c.dirty,true)
   rw[hA]at this
   have:=hm.ddt
   simp[oneM]at *
   omega
  have hAo:qaf A.1=true:=by rw[← hA];exact refsL_okA true _ hdo
  obtain⟨B,hB⟩:∃ B,refsL false (oneM old) (A.1,A.2.1,true)=B:=⟨_,rfl⟩
  have r2:=hok (oneM old) rfl ⟨c.txg,c.sets,A.1,c.parts,A.2.1,c.safe,c.logn⟩ false (by simp only;omega) hAo
  simp only[hB]at r2
  unfold turnG at hR
  simp only[hA,hB]at hR
  obtain⟨al,ad,ao⟩:=A
  obtain⟨bl,bd,bo⟩:=B
  simp only[coreA,cOb,oneM,zPT,List.flatMap_cons,List.flatMap_nil,PT.row,List.cons_append,List.nil_append]at r1 r2
  refine qac [(1000,.whole 8),(1001,.whole 12),(1002,.whole 17),(1003,.whole 22)] (by kernel_rfl) r1 (by simp) (by simp) (by simp[kcs,deOb,kpt,kin];exact⟨qad rfl (qbk _),qad rfl (clR_de _),qad rfl (clR_kpt _),qad rfl (clR_kin _)⟩) (by simp) (by simp) ?_
  rintro r L' ⟨rfl,rfl⟩
  refine⟨[(950,951)],⟨by simp,by simp,by simp,by simp,by simp⟩,?_⟩
  simp only[qae]
  simp -implicitDefEqProofs
  refine qac [(1000,.whole 8),(1001,.whole 951),(1002,.whole 17),(1003,.whole 22)] (by kernel_rfl) r2 (by simp) (by simp) (by simp[kcs,deOb,kpt,kin];exact⟨qad rfl (qbk _),qad rfl (clR_de _),qad rfl (clR_kpt _),qad rfl (clR_kin _)⟩) (by simp) (by simp) ?_
  rintro r L' ⟨rfl,rfl⟩
  refine⟨[(950,952)],⟨by simp,by simp,by simp,by simp,by simp⟩,?_⟩
  simp only[qae]
  simp -implicitDefEqProofs [kcs,hki,hk,e0,hi8]
  have hrow:=cs_turn s h8 hi zPT
  simp only[zPT]at hrow
  cases ao with
  | false =>
   rw[if_pos (.inl rfl)]at hR
   subst hR
   simp
   exact⟨[],by simp,cQ_no (by simp)⟩
  | true =>
   cases bo with
   | false =>
    rw[if_pos (.inr rfl)]at hR
    subst hR
    simp
    exact⟨[],by simp,cQ_no (by simp)⟩
   | true =>
    rw[if_neg (by simp)]at hR
    subst hR
    simp[hrow,List.map_set]
    have hQ:=cQ_yes (I:=[(8,12,17,22),(8,952,17,22)]) (d:=d) (c:=⟨c.txg,c.sets.set k ⟨s.name,s.kind,s.frm,s.map.set i zPT,s.home,true⟩,bl,c.parts,bd,c.safe,c.logn⟩) 8 952 17 22 (by simp)
    simp only[coreA,DK.row,List.length_set]at hQ
    exact⟨by omega,_,by simp[kcs,List.map_set,zPT],hQ⟩
 ·rw[if_neg ht0]at hR
  by_cases hx0:c.txg=1000000
  ·rw[if_pos hx0]at hR
   subst hR
   simp -implicitDefEqProofs [coreA,hki,hk,e0,kcs,hi8,cs_map s f1,ht0,hx0]
   refine⟨by omega,[],by simp,cQ_no (by simp)⟩
  ·rw[if_neg hx0]at hR
   simp -implicitDefEqProofs [coreA,hki,hk,e0,kcs,hi8,cs_map s f1,ht0,hx0]
   refine⟨by omega,?_⟩
   refine qac [(1000,.whole 8),(1001,.whole 12),(1002,.whole 17),(1003,.whole 22)] (by kernel_rfl) cb (by simp) (by simp) (by simp[kcs,deOb,kpt,kin];exact⟨qad rfl (qbk _),qad rfl (clR_de _),qad rfl (clR_kpt _),qad rfl (clR_kin _)⟩) (by simp) (by simp) ?_
   rintro r L' ⟨rfl,rfl⟩
   refine⟨[],⟨by simp,by simp,by simp,by simp,by simp⟩,?_⟩
   simp only[qae]
   obtain⟨X,hX⟩:∃ X,blockB d c text=X:=⟨_,rfl⟩
   simp only[hX]at hR ⊢
   obtain⟨xd,xa,xc⟩:=X
   have e5:=i64w (c.txg+1) (by omega) (by omega)
   have ct:=sBlkToC xa text (c.txg+1) (by simp[maxLen];omega)
   simp only[PT.row]at ct
   simp -implicitDefEqProofs [e5]
   refine⟨fun q1=>?_,fun q1=>?_⟩
   ·simp only[q1,ne_eq,not_false_eq_true,if_true]at hR
    subst hR
    exact⟨[],by simp,cQ_no (by simpa using q1)⟩
   ·simp only[q1,ne_eq,not_true_eq_false,if_false]at hR
    refine ct.call ?_
    simp -implicitDefEqProofs
    refine⟨fun q2=>?_,fun q2=>?_⟩
    ·rw[if_pos q2]at hR
     subst hR
     exact⟨cOb c 8 12 17 22,by simp[kcs],by simpa [coreA,DK.row,q1]using cQ_yes (I:=[(8,12,17,22),(8,952,17,22)]) (d:=xd) (c:=c) 8 12 17 22 (by simp)⟩
    ·rw[if_neg q2]at hR
     obtain⟨A,hA⟩:∃ A,refsL true (oneM (blkToB xa text (c.txg+1))) (c.ddt,c.dirty,true)=A:=⟨_,rfl⟩
     have r1:=hok (oneM (blkToB xa text (c.txg+1))) rfl c true (by have:=hm.ddt;omega) hdo
     rw[hA]at r1
     have hAl:A.1.length≤1008:=by
      have:=refsL_len true (oneM (blkToB xa text (c.txg+1))) (c.ddt,c.dirty,true)
      rw[hA]at this
      have:=hm.ddt
      simp[oneM]at *
      omega
     have hAo:qaf A.1=true:=by rw[← hA];exact refsL_okA true _ hdo
     obtain⟨B,hB⟩:∃ B,refsL false (oneM old) (A.1,A.2.1,true)=B:=⟨_,rfl⟩
     have r2:=hok (oneM old) rfl ⟨c.txg,c.sets,A.1,c.parts,A.2.1,c.safe,c.logn⟩ false (by simp only;omega) hAo
     simp only[hB]at r2
     unfold turnG at hR
     simp only[hA,hB]at hR
     obtain⟨al,ad,ao⟩:=A
     obtain⟨bl,bd,bo⟩:=B
     simp only[coreA,cOb,oneM,zPT,List.flatMap_cons,List.flatMap_nil,PT.row,List.cons_append,List.nil_append]at r1 r2
     refine qac [(1000,.whole 8),(1001,.whole 12),(1002,.whole 17),(1003,.whole 22)] (by kernel_rfl) r1 (by simp) (by simp) (by simp[kcs,deOb,kpt,kin];exact⟨qad rfl (qbk _),qad rfl (clR_de _),qad rfl (clR_kpt _),qad rfl (clR_kin _)⟩) (by simp) (by simp) ?_
     rintro r L' ⟨rfl,rfl⟩
     refine⟨[(950,951)],⟨by simp,by simp,by simp,by simp,by simp⟩,?_⟩
     simp only[qae]
     simp -implicitDefEqProofs
     refine qac [(1000,.whole 8),(1001,.whole 951),(1002,.whole 17),(1003,.whole 22)] (by kernel_rfl) r2 (by simp) (by simp) (by simp[kcs,deOb,kpt,kin];exact⟨qad rfl (qbk _),qad rfl (clR_de _),qad rfl (clR_kpt _),qad rfl (clR_kin _)⟩) (by simp) (by simp) ?_
     rintro r L' ⟨rfl,rfl⟩
     refine⟨[(950,952)],⟨by simp,by simp,by simp,by simp,by simp⟩,?_⟩
     simp only[qae]
     simp -implicitDefEqProofs [kcs,hki,hk,e0,hi8]
     have hrow:=cs_turn s h8 hi (blkToB xa text (c.txg+1))
     cases ao with
     | false =>
      rw[if_pos (.inl rfl)]at hR
      subst hR
      simp
      exact⟨[],by simp,cQ_no (by simp)⟩
     | true =>
      cases bo with
      | false =>
       rw[if_pos (.inr rfl)]at hR
       subst hR
       simp
       exact⟨[],by simp,cQ_no (by simp)⟩
      | true =>
       rw[if_neg (by simp)]at hR
       subst hR
       simp[hrow,List.map_set]
       have hQ:=cQ_yes (I:=[(8,12,17,22),(8,952,17,22)]) (d:=xd) (c:=⟨c.txg,c.sets.set k ⟨s.name,s.kind,s.frm,s.map.set i (blkToB xa text (c.txg+1)),s.home,true⟩,bl,c.parts,bd,c.safe,c.logn⟩) 8 952 17 22 (by simp)
       simp only[coreA,DK.row,List.length_set]at hQ
       exact⟨by omega,_,by simp[kcs,List.map_set,zPT],hQ⟩
end Go.Av.F

end
section
namespace Go.Av.F
open Go Go.Av Go.Proofs Go.Proofs.Tryz
def cS (X:DK×CO×Int) (r:AV) (L':List (Nat×Ob)):Prop :=
 (X.2.2=0∧r=.tup [dA X.1,coreA X.2.1 901 902 903 904,.int .i64 0]∧L'=dOb X.1++cOb X.2.1 901 902 903 904)∨(X.2.2≠0∧r=tops X.2.2∧L'=[])
def cP (X:DK×CO×Int) (r:AV) (L':List (Nat×Ob)):Prop:=∃ r2,impA r r2∧cS X r2 L'
theorem cP_S {f:Nat} {args:List AV} {X:DK×CO×Int} (h:ACall prog f args [] (cP X)):ACall prog f args [] (cS X):=h.imp fun _ _ ⟨r2,h1,h2⟩=>⟨r2,h1,h2⟩
theorem cP_no {X:DK×CO×Int} (h:X.2.2≠0) {a b c d e f g p i j:AV} (hz:([a,b,c,d,e,f,g,p,i,j].all oneA)=true:=by simp):cP X (.tup [.agg [a,b,c],.agg [d,e,f,g,p,i,j],.int .i64 X.2.2]) []:=⟨_,impA_tops _ hz,.inr ⟨h,rfl,rfl⟩⟩
theorem cP_yes {d:DK} {c:CO}:cP (d,c,0) (.tup [dA d,coreA c 901 902 903 904,.int .i64 0]) (dOb d++cOb c 901 902 903 904):=⟨_,qaz _,.inl ⟨rfl,rfl,rfl⟩⟩
theorem sLogPutQ (d:DK) (hd:DkT d) (c:CO) (op:BO) (hl:0≤c.logn∧c.logn≤1000) (ha:op.a.length≤1048576) (ht:op.text.length≤1048576) :
  ACall prog 57 [.agg d.row,coreA c 1000 1001 1002 1003,.agg op.row] (cOb c 1000 1001 1002 1003) (fun r L'=>((qcc d c op).2.2=true∧r=.tup [dA (qcc d c op).1,coreA (qcc d c op).2.1 1000 1001 1002 1003,.bool true]∧L'=dOb (qcc d c op).1++cOb (qcc d c op).2.1 1000 1001 1002 1003) ∨
   ((qcc d c op).2.2=false∧r=.tup [.agg d.row,coreA c 1000 1001 1002 1003,.bool false]∧L'=cOb c 1000 1001 1002 1003)):=by
 obtain⟨R,hR⟩:∃ R,qcc d c op=R:=⟨_,rfl⟩
 rw[hR]
 unfold qcc at hR
 have c1:=sLogTextC ⟨c.txg,c.logn,op⟩ ha ht
 have hlt:=logText_len ⟨c.txg,c.logn,op⟩
 have c2:=sBlkWriteO d hd (5+c.logn) (logText ⟨c.txg,c.logn,op⟩) (by omega)
 have c3:=sBlkWriteC d hd (5+c.logn) (logText ⟨c.txg,c.logn,op⟩) (by omega)
 generalize logText ⟨c.txg,c.logn,op⟩=t at *
 generalize qat d (5+c.logn) t=x at *
 obtain⟨xd,xo⟩:=x
 simp only[DK.row,LR.row,BO.row]at c1 c2 c3
 have e1:=i64w (5+c.logn) (by omega) (by omega)
 have e2:=i64w (c.logn+1) (by omega) (by omega)
 refine acx func57 [(3,[zJ 0 [3] [],zJ 1 [4] [3],zJ 2 [] [4],zI 3,zI 4]),(6,[zJ 0 [3] [],zJ 1 [4] [3],zJ 2 [] [4],zI 3,zI 4]),(8,[zJ 0 [10] [],zJ 1 [4] [10],zJ 2 [] [4],zI 3,zI 4])] ntmps57 rfl rfl rfl ?_
 simp -implicitDefEqProofs [DK.row,coreA,BO.row]
 refine c1.call ?_
 by_cases h0:t=[]
 ·rw[if_pos h0]at hR
  subst hR
  simp -implicitDefEqProofs [h0]
 ·rw[if_neg h0]at hR
  simp -implicitDefEqProofs [h0,e1]
  cases xo with
  | false =>
   rw[if_pos rfl]at hR
   subst hR
   refine c3.call ?_
   simp -implicitDefEqProofs
  | true =>
   rw[if_neg (by simp)]at hR
   subst hR
   refine qac [] (by kernel_rfl) (c2 rfl) (by simp) (by simp) trivial (by simp) (by simp) ?_
   rintro r L' ⟨rfl,rfl⟩
   refine⟨[(911,911),(912,912),(913,913)],⟨by simp,by simp,by simp,by simp,by simp⟩,?_⟩
   simp only[qae]
   simp -implicitDefEqProofs [e2,dA]
theorem sDoneQ (d:DK) (hd:dOkB d=true) (c:CO) (h:CoT c) (hm:CoM c) (hf:needsB c≤(freeB c d.s0.length).length) (ht:0≤c.txg∧c.txg<1000000) :
  ACall prog 51 [.agg d.row,.agg c.row] [] (cS (doneB d c)):=by
 refine cP_S ?_
 obtain⟨R,hR⟩:∃ R,doneB d c=R:=⟨_,rfl⟩
 rw[hR]
 unfold doneB at hR
 have hb1:=blocks_ok hd c
 obtain⟨hb2,hb3⟩:=blocks_T hd h hm
 have hdd:(qag d c).2.1.ddt=c.ddt∧(qag d c).2.1.safe=c.safe:=⟨rfl,rfl⟩
 have cb:=sBlocksO d hd c h hm hf (by omega)
 generalize qag d c=B at *
 obtain⟨⟨bd,bf,bok⟩,c2,root⟩:=B
 simp only at hb1 hb2 hb3 cb hR hdd
 have cf:=sFlushC bd (dOk_T hb1.1)
 have hf1:=flush_ok hb1.1
 have cr:=sRingC (qbm bd) (dOk_T hf1.1) (c.txg+1) root (by omega)
 have hr1:dOkB (ringB (qbm bd) (c.txg+1) root).1=true:=(qcg hf1.1 _ _).1
 have cg:=sFlushO (ringB (qbm bd) (c.txg+1) root).1 (dOk_T hr1) hr1
 generalize ringB (qbm bd) (c.txg+1) root=G at *
 obtain⟨gd,gok⟩:=G
 simp only at cr hr1 cg hR
 have ce:=sReachO ⟨c.txg+1,c2.sets,c2.ddt,c2.parts,c2.dirty,c2.safe,c2.logn⟩ ⟨hb2.sets,hb2.ddt,hb2.parts,hb2.safe,hb2.m8,hb2.nm⟩ ⟨hb3.sets,hb3.ddt,hb3.parts⟩ root.pa
 have hre:reachB ⟨c.txg+1,c2.sets,c2.ddt,c2.parts,c2.dirty,c2.safe,c2.logn⟩ root.pa=reachB c2 root.pa:=rfl
 rw[hre]at ce
 simp only[DK.row,CO.row,PT.row]at cb cf cr cg ce
 refine acx func51 [(3,[zJ 0 [2] [],zJ 1 [3] [2],zJ 2 [] [3],zI 3,zI 4]),(4,[zI 0,zI 1,zI 2,zJ 3 [14] [],zJ 5 [] [14],zJ 6 [] [14],zJ 7 [] [14],zJ 8 [14] [14],zJ 9 [8,14] [14],⟨4,[],[14,8],[14],[]⟩,⟨10,[],[],[14],[]⟩,zI 11,zI 12,zI 13,zJ 14 [] [14,8],zI 15,zI 16]),(6,[zJ 0 [2] [],zJ 1 [3] [2],zJ 2 [] [3],zI 3,zI 4]),(10,[zJ 0 [9] [],zJ 2 [3] [9],zJ 1 [] [3],zJ 3 [] [3],zI 4,zI 5])] ntmps51 rfl rfl rfl ?_
 simp -implicitDefEqProofs [DK.row,CO.row]
 refine qac [] (by kernel_rfl) cb (by simp) (by simpa [CO.row]using co_cl c) trivial (by simp) (by simp) ?_
 rintro r L' ⟨p,hp,rfl,rfl⟩
 rw[← hdd.1,← hdd.2]
 refine⟨[(25,14),(8,901),(12,902),(p,903),(22,922)],?_,?_⟩
 ·rcases hp with rfl | rfl <;> exact⟨by simp,by simp,by simp,by simp,by simp⟩
 rcases hp with rfl | rfl
 all_goals
  simp only[qae]
  simp -implicitDefEqProofs [runOb,coreA]
  refine⟨fun q1=>?_,fun q1=>?_⟩
  ·rw[if_pos q1]at hR
   subst hR
   exact⟨[],by simp,cP_no (by simp)⟩
  ·rw[if_neg (by simp[q1])]at hR
   refine cf.call ?_
   simp -implicitDefEqProofs
   refine cr.call ?_
   cases gok with
   | false =>
    rw[if_pos rfl]at hR
    simp -implicitDefEqProofs
    subst hR
    exact⟨[],by simp,cP_no (by simp)⟩
   | true =>
    rw[if_neg (by simp)]at hR
    simp -implicitDefEqProofs
    refine callA_vw [] (by kernel_rfl) ce (by simp[vwOk,mtA,kcs,deOb,kpt,kin,qap,cs_cl]) (by simp) trivial (by simp) (by simp) ?_
    rintro r L' ⟨rfl,rfl⟩
    refine⟨by simp,by simp[kin,qaw],[(900,904)],⟨by simp,by simp,by simp,by simp,by simp⟩,?_⟩
    simp only[qae]
    simp -implicitDefEqProofs
    refine qac [] (by kernel_rfl) cg (by simp) (by simp) trivial (by simp) (by simp) ?_
    rintro r L' ⟨rfl,rfl⟩
    refine⟨[(911,911),(912,912),(913,913)],⟨by simp,by simp,by simp,by simp,by simp⟩,?_⟩
    simp only[qae]
    simp -implicitDefEqProofs [dA]
    subst hR
    refine⟨_,?_,cP_yes⟩
    simp
theorem sCommitQ (d:DK) (hd:DkT d) (c:CO) (h:CoT c):ACall prog 24 [.agg d.row,.agg c.row] [] (cS (qak d c)):=by
 refine cP_S ?_
 obtain⟨R,hR⟩:∃ R,qak d c=R:=⟨_,rfl⟩
 rw[hR]
 unfold qak at hR
 have c1:=sDiskOkC d hd
 have c2:=sCoreOk c h
 have c3:=sCopyC d hd
 have c4:=sKCopyC c h
 have hl:=hd.l0
 refine acx func24 [(4,[zJ 0 [2] [],zJ 2 [3] [2],zJ 1 [] [3],zI 3,zI 4,zI 5,zI 6]),(5,[zJ 0 [2] [],zJ 2 [3] [2],⟨1,[],[3],[8,9],[]⟩,⟨3,[],[],[8,9],[]⟩,zI 4,zI 5,zI 6,zI 7,zJ 8 [] [2,3],zJ 9 [] [2,3],zI 10,zI 11,zI 12]),(7,[zJ 0 [2] [],zJ 2 [3] [2],zJ 4 [] [2,3],zJ 1 [] [3],zI 3,zI 5,zI 6,zI 7]),(8,[zJ 0 [7] [],zJ 1 [8] [7],zJ 2 [] [7,8],zJ 3 [] [8],zI 4,zI 5])] ntmps24 rfl rfl rfl ?_
 simp only[DK.row,CO.row]at c1 c2 c3 c4
 simp -implicitDefEqProofs [DK.row,CO.row]
 refine c1.call ?_
 cases hok:dOkB d with
 | false =>
  rw[if_pos (.inl hok)]at hR
  subst hR
  simp -implicitDefEqProofs
  exact⟨[],by simp,cP_no (by simp)⟩
 | true =>
  simp -implicitDefEqProofs
  refine c2.call ?_
  cases hco:qah c with
  | false =>
   rw[if_pos (.inr (.inl hco))]at hR
   subst hR
   simp -implicitDefEqProofs
   exact⟨[],by simp,cP_no (by simp)⟩
  | true =>
   obtain⟨hm,k1,k2,k3,k4,k5,k6,k7⟩:=coreOk_M hco
   by_cases hn:d.s0.length≤13
   ·rw[if_pos (.inr (.inr hn))]at hR
    subst hR
    have hn':(d.s0.length:Int)≤13:=by omega
    simp -implicitDefEqProofs [hn']
    exact⟨[],by simp,cP_no (by simp)⟩
   ·rw[if_neg (by simp[hok,hco,hn])]at hR
    have hn':¬ (d.s0.length:Int)≤13:=by omega
    have c5:=sMayDoC d hd c h hm
    simp only[DK.row,CO.row]at c5
    simp -implicitDefEqProofs [hn']
    refine c5.call ?_
    cases hma:mayDoB d c with
    | false =>
     rw[if_pos hma]at hR
     subst hR
     simp -implicitDefEqProofs
     refine c3.call ?_
     simp -implicitDefEqProofs
     refine c4.call ?_
     simp -implicitDefEqProofs
     exact⟨[],by simp,cP_no (by simp)⟩
    | true =>
     rw[if_neg (by simp[hma])]at hR
     have hma2:=hma
     simp only[mayDoB,Bool.and_eq_true,decide_eq_true_eq]at hma2
     have c6:=sDoneQ d hok c h hm hma2.2 (by omega)
     generalize doneB d c=D at *
     obtain⟨dd,dc,code⟩:=D
     simp only[DK.row,CO.row]at c6 hR
     simp -implicitDefEqProofs
     refine c3.call ?_
     simp -implicitDefEqProofs
     refine qac [] (by kernel_rfl) c6 (by simp) (by simpa [CO.row]using co_cl c) trivial (by simp) (by simp) ?_
     rintro r L' (⟨h0,rfl,rfl⟩ | ⟨h0,rfl,rfl⟩)
     ·simp only at h0
      refine⟨[(911,911),(912,912),(913,913),(901,901),(902,902),(903,903),(904,904)],⟨by simp,by simp,by simp,by simp,by simp⟩,?_⟩
      simp only[qae]
      rw[if_neg (by simp[h0])]at hR
      subst hR
      simp -implicitDefEqProofs [coreA,dA,h0]
      have hQ:=cP_yes (d:=dd) (c:=dc)
      simp only[coreA,dA]at hQ
      exact⟨_,by simp,hQ⟩
     ·simp only at h0
      refine⟨[],⟨by simp,by simp,by simp,by simp,by simp⟩,?_⟩
      simp only[qae]
      rw[if_pos h0]at hR
      subst hR
      simp -implicitDefEqProofs [tops,h0]
      refine c3.call ?_
      simp -implicitDefEqProofs
      refine c4.call ?_
      simp -implicitDefEqProofs
      exact⟨[],by simp,cP_no h0⟩
end Go.Av.F

end
section
namespace Go.Av.F
open Go Go.Av Go.Proofs Go.Proofs.Tryz
theorem sCallQ (d:DK) (hd:dOkB d=true) (c:CO) (h:CoT c) (hc:qah c=true) (op:BO) (ha:op.a.length≤1048576) (hb:op.b.length≤1048576) (ht:op.text.length≤1048576) :
  ACall prog 26 [.agg d.row,.agg c.row,.agg op.row] [] (cS (callB d c op)):=by
 refine cP_S ?_
 obtain⟨R,hR⟩:∃ R,callB d c op=R:=⟨_,rfl⟩
 rw[hR]
 unfold callB at hR
 obtain⟨hm,k1,k2,k3,k4,k5,k6,k7⟩:=coreOk_M hc
 have h1:=h.sets
 have cn:=sNamesA c (by omega) h.m8
 have cd:=doC (c.sets.map csB) op (by simp;omega) (fun b hb=>by
  obtain⟨s,hs,rfl⟩:=List.mem_map.1 hb
  simp[csB]) (fun b hb=>by
  obtain⟨s,hs,rfl⟩:=List.mem_map.1 hb
  have:=(h.nm s hs).1
  simp[csB];omega) (by omega)
 have hdn:(doB (c.sets.map csB) op).2=dnB c op:=rfl
 have htk:List.take c.sets.length (List.map BS.row (c.sets.map csB))=List.map BS.row (c.sets.map csB):=List.take_of_length_le (by simp)
 simp only[CO.row]at cn
 refine acv func26 [(1,[zJ 0 [4] [],zJ 2 [5] [4],⟨1,[],[5],[7],[]⟩,⟨3,[25],[],[7],[]⟩,zI 4,zI 5,zI 6,zJ 7 [] [4,5],zI 8,zI 9]),(3,[zJ 0 [3] [],zJ 1 [4] [3],zJ 2 [] [3,4],zJ 3 [] [4],zI 4,zI 5]),(5,[zJ 0 [4] [],zJ 2 [5] [4],⟨1,[],[5],[7],[]⟩,⟨3,[40],[],[7],[]⟩,zI 4,zI 5,zI 6,zJ 7 [] [4,5],zI 8,zI 9]),(7,[zJ 0 [3] [],zJ 1 [4] [3],zJ 2 [] [4],zI 3,zI 4]),(14,[zJ 0 [3] [],zJ 1 [4] [3],zJ 2 [] [3,4],zJ 3 [] [4],zI 4,zI 5]),(15,[zJ 0 [4] [],zJ 2 [] [4],zJ 3 [5] [4],zJ 1 [] [5],zJ 4 [74] [],zI 5,zI 6,zI 7,zI 8,zI 9]),(19,[zJ 0 [3] [],zJ 1 [4] [3],zJ 2 [] [3,4],zJ 3 [] [4],zI 4,zI 5]),(22,[zJ 0 [3] [],zJ 1 [4] [3],zJ 2 [] [4],zI 3,zI 4]),(23,[zJ 0 [20] [],zJ 1 [21] [20],zJ 2 [] [21],zI 3,zI 4])] ntmps26 rfl rfl rfl ?_ (ha:=by simp)
 refine va_seq (qal _ ?_)
 simp -implicitDefEqProofs [DK.row,CO.row,BO.row]
 refine va_cutW (X:=Unit) (fun _=>caS d c op (dnB c op)) (fun _=>True) ?_ ?_
 ·simp -implicitDefEqProofs [DK.row,CO.row,BO.row]
  refine qac [] (by kernel_rfl) cn (by simp[DE.row,PT.row,qaw,cs_cl]) (by simp) trivial (by simp) (by simp) ?_
  rintro r L' ⟨rfl,rfl⟩
  refine⟨[(900,25)],⟨by simp,by simp,by simp,by simp,by simp⟩,?_⟩
  simp only[qae]
  simp -implicitDefEqProofs [BO.row]
  generalize hX:doB (c.sets.map csB) op=X at *
  obtain⟨xb,xc⟩:=X
  simp only at hdn
  subst hdn
  refine qac [(1000,.whole 25)] (by kernel_rfl) cd (by simp[BO.row,bk]) (by simp) (by simp[bkOb];exact qad rfl (by simp)) (by simp) (by simp) ?_
  rintro r L' ⟨id,hid,rfl,rfl⟩
  simp only[List.mem_cons,List.not_mem_nil,or_false]at hid
  rcases hid with rfl | rfl
  ·refine⟨[],⟨by simp,by simp,by simp,by simp,by simp⟩,?_⟩
   simp only[qae]
   simp -implicitDefEqProofs [BO.row]
   exact qbn () trivial (sw_can [3,4,5,6,7,8,10] [(3,3),(4,4),(5,5),(6,6),(7,7)] (by simp[qab]) (by simp[canon,obOf,caS,caOb,DK.row,CO.row,BO.row]))
  ·refine⟨[(900,27)],⟨by simp,by simp,by simp,by simp,by simp⟩,?_⟩
   simp only[qae]
   simp -implicitDefEqProofs [BO.row]
   exact qbn () trivial (sw_can [3,4,5,6,7,8,10] [(3,3),(4,4),(5,5),(6,6),(7,7)] (by simp[qab]) (by simp[canon,obOf,caS,caOb,DK.row,CO.row,BO.row]))
 rintro _ -
 by_cases q0:dnB c op≠0
 ·rw[if_pos q0]at hR
  subst hR
  refine qal _ ?_
  simp -implicitDefEqProofs [caS,caOb,q0,DK.row,CO.row]
  exact⟨[],by simp,cP_no q0⟩
 rw[if_neg q0]at hR
 have q1:dnB c op=0:=by omega
 rw[q1]
 obtain⟨g1,g2,g3,g4⟩:=dnB_done q1
 refine va_seq (qal _ ?_)
 simp -implicitDefEqProofs [caS,caOb]
 by_cases q2:op.kind≠3
 ·rw[if_pos q2]at hR
  have hn:=sSetsO c hm h.m8 op (by omega) g2 g3
  have hXT:=setsD_T h hm op ha hb
  generalize setsD c op=X at *
  obtain⟨x,xo⟩:=X
  simp only[coreS]at hn
  simp only at hXT hR
  have cs:=sKCopyS c h
  simp only[coreS]at cs
  refine va_seq (va_seq (qal _ ?_))
  simp -implicitDefEqProofs [BO.row,q2]
  refine va_cond (b:=true) (by simpa using q2) (fun _=>?_) (by simp)
  refine va_cutW (X:=Unit) (fun _=>caS2 d c op x xo) (fun _=>True) ?_ ?_
  ·simp -implicitDefEqProofs [DK.row,CO.row,BO.row]
   refine qac [] (by kernel_rfl) cs (by simp[co_cl,CO.row]) (by simp) trivial (by simp) (by simp) ?_
   rintro r L' ⟨rfl,rfl⟩
   refine⟨[(8,40)],⟨by simp,by simp,by simp,by simp,by simp⟩,?_⟩
   simp only[qae]
   simp -implicitDefEqProofs [BO.row]
   refine qac [(1000,.whole 40)] (by kernel_rfl) hn (by simp[BO.row];try exact mtL_cl _ (by simp)) (by simp) (by simp[kcs];exact qad rfl (qbk _)) (by simp) (by simp) ?_
   rintro r L' ⟨id,hid,rfl,rfl⟩
   rcases hid with rfl | rfl | rfl | rfl | rfl
   ·refine⟨[],⟨by simp,by simp,by simp,by simp,by simp⟩,?_⟩
    simp only[qae]
    simp -implicitDefEqProofs [BO.row]
    exact qbn () trivial (sw_fr 40 (o:=kcs x.sets) (by simp) (by simpa [clR]using qbk _) (by simp) (by simp) [3,4,5,6,7,8,11,12] [(3,3),(4,4),(5,5),(6,6),(7,7),(11,11)] (by simp[qab]) (by simp[-frzO,canon,obOf,caS2,caOb];simp[frzO,DK.row,CO.row,BO.row,kcs,qap]))
   ·refine⟨[(22,42)],⟨by simp,by simp,by simp,by simp,by simp⟩,?_⟩
    simp only[qae]
    simp -implicitDefEqProofs [BO.row]
    exact qbn () trivial (sw_fr 42 (o:=kcs x.sets) (by simp) (by simpa [clR]using qbk _) (by simp) (by simp) [3,4,5,6,7,8,11,12] [(3,3),(4,4),(5,5),(6,6),(7,7),(11,11)] (by simp[qab]) (by simp[-frzO,canon,obOf,caS2,caOb];simp[frzO,DK.row,CO.row,BO.row,kcs,qap]))
   ·refine⟨[(53,42)],⟨by simp,by simp,by simp,by simp,by simp⟩,?_⟩
    simp only[qae]
    simp -implicitDefEqProofs [BO.row]
    exact qbn () trivial (sw_fr 42 (o:=kcs x.sets) (by simp) (by simpa [clR]using qbk _) (by simp) (by simp) [3,4,5,6,7,8,11,12] [(3,3),(4,4),(5,5),(6,6),(7,7),(11,11)] (by simp[qab]) (by simp[-frzO,canon,obOf,caS2,caOb];simp[frzO,DK.row,CO.row,BO.row,kcs,qap]))
   ·refine⟨[(71,42)],⟨by simp,by simp,by simp,by simp,by simp⟩,?_⟩
    simp only[qae]
    simp -implicitDefEqProofs [BO.row]
    exact qbn () trivial (sw_fr 42 (o:=kcs x.sets) (by simp) (by simpa [clR]using qbk _) (by simp) (by simp) [3,4,5,6,7,8,11,12] [(3,3),(4,4),(5,5),(6,6),(7,7),(11,11)] (by simp[qab]) (by simp[-frzO,canon,obOf,caS2,caOb];simp[frzO,DK.row,CO.row,BO.row,kcs,qap]))
   ·refine⟨[(84,42)],⟨by simp,by simp,by simp,by simp,by simp⟩,?_⟩
    simp only[qae]
    simp -implicitDefEqProofs [BO.row]
    exact qbn () trivial (sw_fr 42 (o:=kcs x.sets) (by simp) (by simpa [clR]using qbk _) (by simp) (by simp) [3,4,5,6,7,8,11,12] [(3,3),(4,4),(5,5),(6,6),(7,7),(11,11)] (by simp[qab]) (by simp[-frzO,canon,obOf,caS2,caOb];simp[frzO,DK.row,CO.row,BO.row,kcs,qap]))
  rintro _ -
  refine qal _ ?_
  cases xo with
  | false =>
   rw[if_pos rfl]at hR
   subst hR
   simp -implicitDefEqProofs [caS2,caOb,DK.row,CO.row]
   exact⟨[],by simp,cP_no (by simp)⟩
  | true =>
   rw[if_neg (by simp)]at hR
   subst hR
   have cc:=sCommitQ d (dOk_T hd) x hXT
   simp only[DK.row,CO.row]at cc
   simp -implicitDefEqProofs [caS2,caOb,DK.row,CO.row]
   refine qac [] (by kernel_rfl) cc (by simp) (by simpa [CO.row]using co_cl x) trivial (by simp) (by simp) ?_
   rintro r L' (⟨h0,rfl,rfl⟩ | ⟨h0,rfl,rfl⟩)
   ·refine⟨[(911,911),(912,912),(913,913),(901,901),(902,902),(903,903),(904,904)],⟨by simp,by simp,by simp,by simp,by simp⟩,?_⟩
    simp only[qae]
    generalize qak d x=W at *
    obtain⟨wd,wc,wn⟩:=W
    simp only at h0
    subst h0
    simp -implicitDefEqProofs [coreA,dA]
    have hQ:=cP_yes (d:=wd) (c:=wc)
    simp only[coreA,dA]at hQ
    exact⟨_,by simp,hQ⟩
   ·refine⟨[],⟨by simp,by simp,by simp,by simp,by simp⟩,?_⟩
    simp only[qae]
    simp -implicitDefEqProofs [tops]
    exact⟨[],by simp,cP_no h0⟩
 ·rw[if_neg q2]at hR
  have q3:op.kind=3:=by omega
  obtain⟨g5,g6,g7⟩:=g4 q3
  have g8:=g2 (by omega)
  have ca:=cv_of (atC (c.sets.map csB) op.a (by simp;omega)) (hca:=by simp[bk])
  rw[← nmP_at]at ca
  simp only[bk]at ca
  refine va_seq (qal _ ?_)
  simp -implicitDefEqProofs [BO.row,q3]
  have key:∀ (z:DK×CO×Int),(z=if c.logn=8 then qak d c else (d,c,0))→z.2.2=0→dOkB z.1=true∧CoT z.2.1∧CoM z.2.1∧(0≤z.2.1.txg∧z.2.1.txg≤1000000)∧(0≤z.2.1.logn∧z.2.1.logn≤8)∧z.2.1.sets.length=c.sets.length∧qaf z.2.1.ddt=true:=by
   intro z hz hz0
   by_cases q4:c.logn=8
   ·rw[if_pos q4]at hz
    subst hz
    obtain⟨_,_,a1,a2,a3,a4,a5,a6,a7,a8⟩:=qca h hz0
    exact⟨a1,a3,a4,by omega,by omega,a8,core_ddt (commit_core h hz0).1⟩
   ·rw[if_neg q4]at hz
    subst hz
    exact⟨hd,h,hm,⟨k4,k5⟩,⟨k6,k7⟩,rfl,core_ddt hc⟩
  obtain⟨z,hz⟩:∃ z,z=(if c.logn=8 then qak d c else (d,c,0)):=⟨_,rfl⟩
  specialize key z hz
  refine va_seq (qal _ ?_)
  simp -implicitDefEqProofs [DK.row,CO.row,BO.row]
  refine va_seq (qal _ ?_)
  simp -implicitDefEqProofs [DK.row,CO.row,BO.row]
  rw[← hz]at hR
  by_cases q5:z.2.2≠0
  ·rw[putZ,if_pos q5]at hR
   by_cases q4:c.logn=8
   ·rw[if_pos q4]at hz
    have cc:=sCommitC d (dOk_T hd) c h
    rw[← hz]at cc
    subst hR
    simp only[DK.row,CO.row,q4]at cc
    refine qal _ ?_
    simp -implicitDefEqProofs [DK.row,CO.row,BO.row,q4]
    refine cc.call ?_
    simp -implicitDefEqProofs [q5]
    exact⟨[],by simp,cP_no (X:=(d,c,z.2.2)) q5⟩
   ·rw[if_neg q4]at hz
    exact absurd (by rw[hz]) q5
  ·rw[putZ,if_neg q5]at hR
   obtain⟨d1,d2,d3,d4,d5,d6,hzo⟩:=key (by omega)
   refine va_cutW (X:=Unit) (fun _=>caS3 d c op z) (fun _=>True) ?_ ?_
   ·by_cases q4:c.logn=8
    ·rw[if_pos q4]at hz
     have cc:=sCommitC d (dOk_T hd) c h
     rw[← hz]at cc
     simp only[DK.row,CO.row,q4]at cc
     simp -implicitDefEqProofs [DK.row,CO.row,BO.row,q4]
     refine cc.call ?_
     simp -implicitDefEqProofs [show z.2.2=0 by omega]
     exact qbn () trivial (sw_can [3,4,5,6,7,8,13,14] [(3,3),(4,4),(5,5),(6,6),(7,7),(13,13),(14,14)] (by simp[qab]) (by simp[canon,obOf,caS3,caOb,DK.row,CO.row,BO.row,q3,q4]))
    ·rw[if_neg q4]at hz
     subst hz
     simp -implicitDefEqProofs [DK.row,CO.row,BO.row,q4]
     exact qbn () trivial (sw_can [3,4,5,6,7,8,13,14] [(3,3),(4,4),(5,5),(6,6),(7,7),(13,13),(14,14)] (by simp[qab]) (by simp[canon,obOf,caS3,caOb,DK.row,CO.row,BO.row,q3]))
   rintro _ -
   obtain⟨zd,zc,zn⟩:=z
   simp only at hR d1 d2 d3 d4 d5 d6 hzo
   clear key hz q5
   obtain⟨w,hw⟩:∃ w,turnB zd zc (nmP c.sets op.a) op.i.toNat op.text=w:=⟨_,rfl⟩
   have tw:=turnB_ok d1 zc (nmP c.sets op.a) op.i.toNat op.text
   have ct:=sTurnQ zd (dOk_T d1) zc d2 d3 hzo (nmP c.sets op.a) op.i.toNat (by omega) (by omega) op.text ht d4
   rw[show((op.i.toNat:Nat):Int)=op.i by omega]at ct
   rw[hw]at hR ct tw
   obtain⟨wd,wc,wn⟩:=w
   simp only at hR tw
   have cl:=sLogPutQ wd (dOk_T tw.1) wc ⟨op.kind,op.a,[],op.i,op.text⟩ (by omega) ha ht
   unfold putL at hR
   simp only at hR
   generalize qcc wd wc ⟨op.kind,op.a,[],op.i,op.text⟩=v at *
   obtain⟨vd,vc,vo⟩:=v
   simp only[DK.row,CO.row,BO.row,q3]at hR ct cl
   refine qal _ ?_
   simp -implicitDefEqProofs [caS3,caOb,DK.row,CO.row,BO.row]
   refine qac [] (by kernel_rfl) cn (by simp[DE.row,PT.row,qaw,cs_cl]) (by simp) trivial (by simp) (by simp) ?_
   rintro r L' ⟨rfl,rfl⟩
   refine⟨[(900,74)],⟨by simp,by simp,by simp,by simp,by simp⟩,?_⟩
   simp only[qae]
   simp -implicitDefEqProofs [BO.row]
   have htk2:List.take c.sets.length (List.map (BS.row ∘ csB) c.sets)=List.map (BS.row ∘ csB) c.sets:=List.take_of_length_le (by simp)
   refine ca.view (by simp[vwOk,mtA,bkOb,htk2]) ?_
   simp -implicitDefEqProofs [BO.row]
   refine qac [] (by kernel_rfl) ct (by simp) (by simpa [CO.row]using co_cl zc) trivial (by simp) (by simp) ?_
   rintro r L' (⟨h0,rfl,rfl⟩ | ⟨h0,rfl,rfl⟩)
   ·simp only at h0
    subst h0
    refine⟨[(901,901),(902,902),(903,903),(904,904)],⟨by simp,by simp,by simp,by simp,by simp⟩,?_⟩
    simp only[qae]
    rw[if_neg (by simp)]at hR
    simp only[coreA]at cl
    simp -implicitDefEqProofs [coreA,DK.row,q3]
    refine qac [(1000,.whole 901),(1001,.whole 902),(1002,.whole 903),(1003,.whole 904)] (by kernel_rfl) cl (by simp) (by simp) (by simp;exact⟨qad rfl (qbk _),qad rfl (clR_de _),qad rfl (clR_kpt _),qad rfl (clR_kin _)⟩) (by simp) (by simp) ?_
    rintro r L' (⟨h1,rfl,rfl⟩ | ⟨h1,rfl,rfl⟩)
    ·rw[if_neg (by simp[h1])]at hR
     subst hR
     refine⟨[(911,911),(912,912),(913,913)],⟨by simp,by simp,by simp,by simp,by simp⟩,?_⟩
     simp only[qae]
     simp -implicitDefEqProofs [dA]
     have hQ:=cP_yes (d:=vd) (c:=vc)
     simp only[coreA,dA]at hQ
     exact⟨_,by simp,hQ⟩
    ·rw[if_pos h1]at hR
     subst hR
     refine⟨[],⟨by simp,by simp,by simp,by simp,by simp⟩,?_⟩
     simp only[qae]
     simp -implicitDefEqProofs
     exact⟨[],by simp,cP_no (X:=(d,c,7)) (by simp)⟩
   ·simp only at h0
    refine⟨[],⟨by simp,by simp,by simp,by simp,by simp⟩,?_⟩
    simp only[qae]
    rw[if_pos h0]at hR
    subst hR
    simp -implicitDefEqProofs [tops,h0]
    exact⟨[],by simp,cP_no h0⟩
end Go.Av.F

end
section
namespace Go.Av.F
open Go Go.Av Go.Proofs Go.Proofs.Tryz
def opnB (n:Int):DK:=⟨List.replicate n.toNat [],List.replicate n.toNat [],[]⟩
theorem open_ok {n:Int} (hn:1≤n∧n≤120):dOkB (opnB n)=true:=by
 have h1:1≤n.toNat:=by omega
 have h2:n.toNat≤120:=by omega
 simp[dOkB,opnB,h1,h2]
theorem sOpenC (n:Int) (hn:1≤n∧n≤120):CV prog 46 [.int .i64 n] (.agg (opnB n).row):=by
 have h0:¬ n<1:=by omega
 have h1:¬ 120<n:=by omega
 have key:ACall prog 46 [.int .i64 n] [] (fun r L'=>r=.agg [.sl 11 0 n.toNat,.sl 13 0 n.toNat,.nils]∧L'=[(11,strOb (opnB n).s0),(13,strOb (opnB n).s1)]):=by
  refine acx func46 [(3,[zI 0,zI 2,zI 1,zI 3,zI 4,zI 5,zI 6])] ntmps46 rfl rfl rfl ?_
  simp -implicitDefEqProofs [h0,h1]
  exact⟨⟨by omega,by omega⟩,by simp[strOb,opnB,qav]⟩
 refine CV.of_frz key ?_ (hca:=by simp) (hcv:=by simp[DK.row])
 rintro r L' ⟨rfl,rfl⟩
 refine⟨by simp,by simp,by simp[clR,strOb,qav],?_⟩
 simp[qcf,DK.row,strOb,opnB]
 exact impA_ag (.cons (qaz _) (.cons (qaz _) (.cons (qby 3) .nil)))
theorem dW_yes {d:DK} (hd:dOkB d=true) {s a:Int} {t:List UInt8} (hs:s=0∨s=1) (ha:0≤a∧a<d.s0.length) (ht:t.length≤420) (hl:d.late.length<600):qbj d s a t=(⟨d.s0,d.s1,d.late++[⟨s,a,t⟩]⟩,true):=by
 unfold qbj
 rw[if_neg (by simp[hd]),if_neg]
 rintro(h | h)
 ·have:thereB d s a t=true:=thereB_iff.2 ⟨hs,ha,ht⟩
  rw[this]at h
  cases h
 ·omega
theorem bW_yes {d:DK} (hd:dOkB d=true) {a:Int} {t:List UInt8} (ha:0≤a∧a<d.s0.length) (ht:t.length≤420) (hl:d.late.length≤598):qat d a t=(⟨d.s0,d.s1,d.late++[⟨0,a,t⟩,⟨1,a,t⟩]⟩,true):=by
 have h1:=dW_yes hd (s:=0) (a:=a) (t:=t) (.inl rfl) ha ht (by omega)
 have hd1:dOkB ⟨d.s0,d.s1,d.late++[⟨0,a,t⟩]⟩=true:=by
  have:=qcg hd a t
  obtain⟨g1,g2,g3,g4,g5,g6,g7⟩:=dOk_len hd
  simp only[dOkB,Bool.and_eq_true,decide_eq_true_eq,List.all_eq_true]
  refine⟨⟨⟨⟨⟨⟨g1,g2⟩,g3⟩,by simp;omega⟩,g5⟩,g6⟩,fun w hw=>?_⟩
  rcases List.mem_append.1 hw with hw | hw
  ·exact g7 w hw
  ·simp only[List.mem_cons,List.not_mem_nil,or_false]at hw
   subst hw
   exact thereB_iff.2 ⟨.inl rfl,ha,ht⟩
 have h2:=dW_yes hd1 (s:=1) (a:=a) (t:=t) (.inr rfl) ha ht (by simp;omega)
 unfold qat
 rw[if_neg (by simp[hd]),if_neg (by omega),h1]
 simp only[Bool.true_eq_false,if_false,h2]
 simp
theorem uber_len {txg:Int} {p:PT}:(uberText txg p).length≤100:=by
 unfold uberText
 split
 ·simp
 ·rename_i h
  simp only[not_or]at h
  have h1:=qax txg (by omega)
  have h2:=ptText_len p
  unfold sealB
  split
  ·simp
  ·rw[ddig_dec]
   have:=dec_len _ 6 (Nat.lt_of_lt_of_le (sumB_lt (dec txg++32::(ptText p++32::dec txg)) (1+(dec txg++32::(ptText p++32::dec txg)).length % 997) (by omega)) (by decide)) (by omega)
   simp at this ⊢
   omega
theorem ring_yes {d:DK} (hd:dOkB d=true) (hn:13<d.s0.length) (hl:d.late.length≤598) {txg:Int} {p:PT}:(ringB d txg p).2=true:=by
 unfold ringB
 rw[bW_yes hd ⟨by omega,by omega⟩ (by have:=@uber_len txg p;omega) hl]
theorem free_new {n:Int} (hn:14≤n):(freeB zK n).headD 0=13∧1≤(freeB zK n).length:=by
 obtain⟨k,hk⟩:∃ k,(n-13).toNat=k+1:=⟨(n-13).toNat-1,by omega⟩
 unfold freeB
 rw[hk]
 have h:freeB1 zK 13=true:=by decide
 simp[freeR,h]
theorem commit_new {n:Int} (hn:14≤n∧n≤120):(qak (opnB n) zK).2.2=0:=by
 have hd:=open_ok (n:=n) (by omega)
 have hl:(opnB n).s0.length=n.toNat:=by simp[opnB]
 have hl2:(opnB n).late=[]:=rfl
 obtain⟨f1,f2⟩:=free_new hn.1
 have hln:(((opnB n).s0.length:Nat):Int)=n:=by omega
 have hc:qah zK=true:=by decide
 have hne:needsB zK=1:=by decide
 unfold qak
 rw[if_neg (by simp[hd,hc];omega),if_neg (by simp[mayDoB,hln,hne,f2];decide)]
 have hb:=bW_yes hd (a:=13) (t:=qbh ⟨0,[],[],[],false,[],0⟩) ⟨by omega,by omega⟩ (by decide) (by simp[hl2])
 have hB:(qag (opnB n) zK).1=⟨(qat (opnB n) 13 (qbh ⟨0,[],[],[],false,[],0⟩)).1,(freeB zK n).tail,true⟩:=by
  simp only[qag,setsB,zK,Bool.false_eq_true,if_false,rsPut,hln]
  have e:(⟨0,[],[],[],false,[],0⟩:CO)=zK:=rfl
  rw[e,f1,← e,hb]
  rfl
 have hD:(doneB (opnB n) zK).2.2=0:=by
  unfold doneB
  rw[hB]
  simp only[Bool.true_eq_false,if_false]
  have hf:=flush_ok (qcg hd 13 (qbh ⟨0,[],[],[],false,[],0⟩)).1
  have hr:=ring_yes hf.1 (by rw[hf.2.1,(qcg hd _ _).2];omega) (by rw[hf.2.2];simp) (txg:=zK.txg+1) (p:=(qag (opnB n) zK).2.2)
  rw[hr]
  simp
 rw[if_neg (by simp[hD])]
 exact hD
end Go.Av.F

end
section
namespace Go.Av.F
open Go Go.Av Go.Proofs Go.Proofs.Tryz
theorem zK_T:CoT zK:=⟨by simp[zK],by simp[zK],by simp[zK],by simp[zK],by simp[zK],by simp[zK]⟩
theorem sNewQ (n:Int) (hn:14≤n∧n≤120):ACall prog 22 [.int .i64 n] [] (fun r L'=>r=.tup [dA (qak (opnB n) zK).1,coreA (qak (opnB n) zK).2.1 901 902 903 904,.bool true]∧L'=dOb (qak (opnB n) zK).1++cOb (qak (opnB n) zK).2.1 901 902 903 904):=by
 have c1:=sOpenC n (by omega)
 have c2:=sCommitQ (opnB n) (dOk_T (open_ok (by omega))) zK zK_T
 have hz:=commit_new hn
 generalize qak (opnB n) zK=W at *
 obtain⟨wd,wc,wn⟩:=W
 simp only at hz
 subst hz
 simp only[DK.row,CO.row]at c1 c2
 refine acx func22 [(2,[zJ 0 [5] [],zJ 1 [6] [5],zJ 2 [] [5,6],zJ 3 [] [5,6],zJ 4 [] [6],zI 5,zI 6])] ntmps22 rfl rfl rfl ?_
 simp -implicitDefEqProofs
 refine c1.call ?_
 simp -implicitDefEqProofs [DK.row]
 refine qac [] (by kernel_rfl) c2 (by simp[zK]) (by simp) trivial (by simp) (by simp) ?_
 rintro r L' (⟨h0,rfl,rfl⟩ | ⟨h0,_⟩)
 ·refine⟨[(911,911),(912,912),(913,913),(901,901),(902,902),(903,903),(904,904)],⟨by simp,by simp,by simp,by simp,by simp⟩,?_⟩
  simp only[qae]
  simp -implicitDefEqProofs [dA,coreA]
 ·exact absurd rfl h0
inductive Rch:DK→CO→Prop
 | new (n:Int) (hn:n=50∨n=60∨n=80∨n=120):Rch (qak (opnB n) zK).1 (qak (opnB n) zK).2.1
 | com {d:DK} {c:CO} (h:Rch d c) (hz:(qak d c).2.2=0):Rch (qak d c).1 (qak d c).2.1
 | call {d:DK} {c:CO} (op:BO) (ho:OpG op) (h:Rch d c) (hz:(callB d c op).2.2=0):Rch (callB d c op).1 (callB d c op).2.1
def Bent (c c':CO):Prop:=c'=c∨(∃ t,(t=-1∨t=1000000∨t=1000001)∧c'=⟨t,c.sets,c.ddt,c.parts,c.dirty,c.safe,c.logn⟩) ∨
 (∃ e q,c.ddt=e::q∧c'=⟨c.txg,c.sets,⟨e.es,e.ea,e.ec+1⟩::q,c.parts,c.dirty,c.safe,c.logn⟩)∨c'=⟨c.txg,c.sets,c.ddt,c.parts,c.dirty,c.safe++[12],c.logn⟩ ∨
 (∃ n,(n=-1∨n=8∨n=9)∧c'=⟨c.txg,c.sets,c.ddt,c.parts,c.dirty,c.safe,n⟩) ∨
 (∃ s q a,(a=-1∨a=120∨a=13)∧c.sets=s::q∧c'=⟨c.txg,⟨s.name,s.kind,s.frm,s.map,⟨a,s.home.ps,s.home.pb⟩,s.dirty⟩::q,c.ddt,c.parts,c.dirty,c.safe,c.logn⟩)
def DrP (d:DK) (c:CO):Prop:=∃ c0,Rch d c0∧Bent c0 c
theorem callB_out {d:DK} {c:CO} {op:BO} (hz:(callB d c op).2.2=0):dnB c op=0∧((op.kind≠3∧(setsD c op).2=true∧callB d c op=qak d (setsD c op).1)∨(op.kind=3∧∃ z w v,(z=if c.logn=8 then qak d c else (d,c,0))∧z.2.2=0 ∧
  w=turnB z.1 z.2.1 (nmP c.sets op.a) op.i.toNat op.text∧w.2.2=0∧v=qcc w.1 w.2.1 ⟨op.kind,op.a,[],op.i,op.text⟩∧v.2.2=true∧callB d c op=(v.1,v.2.1,0))):=by
 unfold callB at hz ⊢
 by_cases q1:dnB c op≠0
 ·rw[if_pos q1]at hz;exact absurd hz q1
 rw[if_neg q1]at hz ⊢
 refine⟨by omega,?_⟩
 by_cases q2:op.kind≠3
 ·rw[if_pos q2]at hz ⊢
  by_cases q3:(setsD c op).2=false
  ·rw[if_pos q3]at hz;simp at hz
  rw[if_neg q3]
  exact .inl ⟨q2,by simpa using q3,rfl⟩
 rw[if_neg q2]at hz ⊢
 obtain⟨z,hZ⟩:∃ z,z=(if c.logn=8 then qak d c else (d,c,0)):=⟨_,rfl⟩
 rw[← hZ]at hz ⊢
 by_cases q4:z.2.2≠0
 ·rw[putZ,if_pos q4]at hz;exact absurd hz q4
 rw[putZ,if_neg q4,putL]at hz ⊢
 by_cases q5:(turnB z.1 z.2.1 (nmP c.sets op.a) op.i.toNat op.text).2.2≠0
 ·rw[if_pos q5]at hz;exact absurd hz q5
 rw[if_neg q5]at hz ⊢
 by_cases q6:(qcc (turnB z.1 z.2.1 (nmP c.sets op.a) op.i.toNat op.text).1 (turnB z.1 z.2.1 (nmP c.sets op.a) op.i.toNat op.text).2.1 ⟨op.kind,op.a,[],op.i,op.text⟩).2.2=false
 ·rw[if_pos q6]at hz;simp at hz
 rw[if_neg q6]
 exact .inr ⟨by omega,z,_,_,rfl,by omega,rfl,by omega,rfl,by simpa using q6,rfl⟩
theorem logPut_core {d:DK} {c:CO} {op:BO} (hv:(qcc d c op).2.2=true):qcc d c op=((qat d (5+c.logn) (logText ⟨c.txg,c.logn,op⟩)).1,⟨c.txg,c.sets,c.ddt,c.parts,c.dirty,c.safe,c.logn+1⟩,true)∧(qat d (5+c.logn) (logText ⟨c.txg,c.logn,op⟩)).2=true∧logText ⟨c.txg,c.logn,op⟩≠[]:=by
 unfold qcc at hv ⊢
 split at hv
 ·cases hv
 ·rename_i h1
  split at hv
  ·cases hv
  ·rename_i h2
   rw[if_neg h1,if_neg h2]
   exact⟨rfl,by simpa using h2,h1⟩
theorem callB_core {d:DK} {c:CO} (hd:dOkB d=true) (h:CoT c) (hc:qah c=true) (op:BO) (ha:op.a.length≤1048576) (hb:op.b.length≤1048576) (hz:(callB d c op).2.2=0):qah (callB d c op).2.1=true∧(callB d c op).1.s0.length=d.s0.length:=by
 obtain⟨hm,k1,k2,k3,k4,k5,k6,k7⟩:=coreOk_M hc
 obtain⟨g0,⟨g1,g2,g3⟩ | ⟨g1,z,w,v,g2,g3,g4,g5,g6,g7,g8⟩⟩:=callB_out hz
 ·rw[g3]at hz ⊢
  exact⟨(commit_core (setsD_T h hm op ha hb) hz).1,(qca (setsD_T h hm op ha hb) hz).2.2.2.1⟩
 ·rw[g8]
  have hZ:dOkB z.1=true∧CoT z.2.1∧qah z.2.1=true∧z.2.1.logn≤7∧z.1.s0.length=d.s0.length:=by
   split at g2
   ·subst g2
    obtain⟨_,_,a1,a2,a3,a4,a5,a6,a7,a8⟩:=qca h g3
    exact⟨a1,a3,(commit_core h g3).1,by omega,a2⟩
   ·subst g2
    exact⟨hd,h,hc,by simp only;omega,rfl⟩
  obtain⟨z1,z2,z3,z4,z5⟩:=hZ
  obtain⟨_,_,_,hi⟩:=dnB_done g0
  obtain⟨i1,i2,i3⟩:=hi g1
  have hw:=turnB_core (d:=z.1) z2 z3 (nmP c.sets op.a) (i:=op.i.toNat) (by omega) op.text
  have hwo:=turnB_ok z1 z.2.1 (nmP c.sets op.a) op.i.toNat op.text
  rw[← g4]at hw hwo
  rw[g6]at g7 ⊢
  obtain⟨l1,_,_⟩:=logPut_core g7
  rw[l1]
  obtain⟨h1,h2,h3,h4,h5,h6,h7,h8⟩:=coreOk_iff.1 hw
  exact⟨coreOk_iff.2 ⟨h1,h2,h3,h4,h5,by simp only;omega,by simp only;omega,h8⟩,by rw[(qcg hwo.1 _ _).2,hwo.2.1,z5]⟩
theorem op_ln {op:BO} (h:OpG op):op.a.length≤1048576∧op.b.length≤1048576:=⟨by have:=h.1;omega,by have:=h.2;omega⟩
theorem Rch.ok {d:DK} {c:CO} (h:Rch d c):dOkB d=true∧CoT c∧qah c=true∧14≤d.s0.length:=by
 induction h with
 | new n hn =>
  have hz:=commit_new (n:=n) (by omega)
  obtain⟨_,_,a1,a2,a3,_⟩:=qca zK_T hz
  exact⟨a1,a3,(commit_core zK_T hz).1,by rw[a2];simp[opnB];omega⟩
 | com h hz ih =>
  obtain⟨_,_,a1,a2,a3,_⟩:=qca ih.2.1 hz
  exact⟨a1,a3,(commit_core ih.2.1 hz).1,by rw[a2];exact ih.2.2.2⟩
 | call op ho h hz ih =>
  obtain⟨b1,b2⟩:=callB_T ih.1 ih.2.1 ih.2.2.1 op (op_ln ho).1 (op_ln ho).2 hz
  obtain⟨b3,b4⟩:=callB_core ih.1 ih.2.1 ih.2.2.1 op (op_ln ho).1 (op_ln ho).2 hz
  exact⟨b1,b2,b3,by omega⟩
end Go.Av.F

end
section
namespace Go.Av
open Go Go.Proofs
section
variable {P:Program} {E:Env} {s:S} {Q:Exit→S→Prop}
theorem va_lpW {a:ACode} {X:Type} (st0:X→S) (meas:X→Nat) (good:X→Prop) (x0:X) (h0:good x0∧SW E s (st0 x0)) (round:∀ x,good x→VA P E a (st0 x) (thenQ (nextW E st0 meas good x) Q)):VA P E (.loop a) s Q:=by
 refine va_pre h0.2 (va_loop (fun k st=>∃ x,k=meas x∧good x∧st=st0 x) (meas x0) ⟨x0,rfl,h0.1,rfl⟩ ?_)
 rintro k st ⟨x,rfl,hx,rfl⟩
 refine va_post ((round x hx).mono fun e s' h=>?_)
 cases e with
 | normal =>
  obtain⟨x',hm,hg,hsw⟩:=h
  exact⟨_,hsw,_,hm,x',rfl,hg,rfl⟩
 | _=>exact⟨_,.refl,h⟩
theorem va_cutV {a b:ACode} {X:Type} (st0:X→S) (good:X→Prop) (ha:VA P E a s (thenQ (cutW E st0 good) Q)) (hb:∀ x,good x→VA P E b (st0 x) Q):VA P E (.seq a b) s Q:=by
 refine va_seq (ha.mono fun e s' h=>?_)
 cases e with
 | normal =>
  obtain⟨x,hg,hsw⟩:=h
  exact va_pre hsw (hb x hg)
 | _=>exact h
end
end Go.Av
namespace Go.Av.F
open Go Go.Av Go.Proofs Go.Proofs.Tryz
set_option maxHeartbeats 4000000
theorem sw_fr3 {E:Env} {s st:S} {a b e:Nat} {d:DK} (ha:s.h a=some (strOb d.s0)) (hb:s.h b=some (strOb d.s1)) (he:s.h e=some (ltOb d.late)) (hn:a≠b∧a≠e∧b≠e) (h1:a ∉ E.ins) (h2:b ∉ E.ins) (h3:e ∉ E.ins) (hins:∀ i∈E.ins,(s.h i).isSome=true)
  (live:List Nat) (φ:List (Nat×Nat)) (hc:qab E φ (frzS e (ltOb d.late) (frzS b (strOb d.s1) (frzS a (strOb d.s0) s)))) (h4:canon E.ins live φ (frzS e (ltOb d.late) (frzS b (strOb d.s1) (frzS a (strOb d.s0) s)))=st):SW E s st:=by
 have c0:∀ l:List (List UInt8),(strOb l).els.all clL=true:=fun l=>by simp[strOb,qav]
 have c1:(ltOb d.late).els.all clL=true:=by simp[ltOb,LT.row]
 have f0:∀ (i:Nat) (o:Ob) (l:List (List UInt8)),frzO i o (strOb l)=strOb l:=fun i o l=>frzO_closed i o _ (c0 l)
 have f1:∀ (i:Nat) (o:Ob),frzO i o (ltOb d.late)=ltOb d.late:=fun i o=>frzO_closed i o _ c1
 have ne:∀ {i j:Nat},i∈E.ins→j ∉ E.ins→i≠j:=fun hi hj h=>hj (h ▸ hi)
 refine(sw_frz a ha (c0 _) h1 hins).trans ((sw_frz b ?_ (c0 _) h2 fun i hi=>?_).trans (sw_fr e ?_ c1 h3 (fun i hi=>?_) live φ hc h4))
 ·simp[-frzO,frzS,Ne.symm hn.1,hb,f0]
 ·simp[-frzO,frzS,ne hi h1,hins i hi]
 ·simp[-frzO,frzS,Ne.symm hn.2.1,Ne.symm hn.2.2,he,f1]
 ·simp[-frzO,frzS,ne hi h1,ne hi h2,hins i hi]
theorem sw_fr4 {E:Env} {s st:S} {a b e f:Nat} {c:CO} (ha:s.h a=some (kcs c.sets)) (hb:s.h b=some (deOb c.ddt)) (he:s.h e=some (kpt c.parts)) (hf:s.h f=some (kin c.safe)) (hn:a≠b∧a≠e∧a≠f∧b≠e∧b≠f∧e≠f)
  (h1:a ∉ E.ins) (h2:b ∉ E.ins) (h3:e ∉ E.ins) (h4:f ∉ E.ins) (hins:∀ i∈E.ins,(s.h i).isSome=true) (live:List Nat) (φ:List (Nat×Nat)) (hc:qab E φ (frzS f (kin c.safe) (frzS e (kpt c.parts) (frzS b (deOb c.ddt) (frzS a (kcs c.sets) s)))))
  (hq:canon E.ins live φ (frzS f (kin c.safe) (frzS e (kpt c.parts) (frzS b (deOb c.ddt) (frzS a (kcs c.sets) s))))=st):SW E s st:=by
 have ne:∀ {i j:Nat},i∈E.ins→j ∉ E.ins→i≠j:=fun hi hj h=>hj (h ▸ hi)
 obtain⟨n1,n2,n3,n4,n5,n6⟩:=hn
 refine(sw_frz a ha (qbk _) h1 hins).trans ((sw_frz b ?_ (clR_de _) h2 fun i hi=>?_).trans ((sw_frz e ?_ (clR_kpt _) h3 fun i hi=>?_).trans (sw_fr f ?_ (clR_kin _) h4 (fun i hi=>?_) live φ hc hq)))
 ·simp[-frzO,frzS,Ne.symm n1,hb]
 ·simp[-frzO,frzS,ne hi h1,hins i hi]
 ·simp[-frzO,frzS,Ne.symm n2,Ne.symm n4,he]
 ·simp[-frzO,frzS,ne hi h1,ne hi h2,hins i hi]
 ·simp[-frzO,frzS,Ne.symm n3,Ne.symm n5,Ne.symm n6,hf]
 ·simp[-frzO,frzS,ne hi h1,ne hi h2,ne hi h3,hins i hi]
theorem cs_hset (s:CS) (h8:s.map.length=8) (t:Int):List.take 27 s.row++AV.int .i64 t::List.drop 28 s.row=CS.row ⟨s.name,s.kind,s.frm,s.map,⟨t,s.home.ps,s.home.pb⟩,s.dirty⟩:=by
 have hl:(s.map.flatMap PT.row).length=24:=by
  rw[List.length_flatMap];exact sum3 h8
 have e:s.row=(.str s.name::.int .i64 s.kind::.str s.frm::s.map.flatMap PT.row)++(.int .i64 s.home.pa::[.int .i64 s.home.ps,.int .i64 s.home.pb,.bool s.dirty]):=by simp[CS.row,PT.row]
 have h27:(.str s.name::.int .i64 s.kind::.str s.frm::s.map.flatMap PT.row:List AV).length=27:=by simp[hl]
 have e2:List.drop 28 s.row=[.int .i64 s.home.ps,.int .i64 s.home.pb,.bool s.dirty]:=by
  rw[e,List.drop_append,h27,List.drop_of_length_le (by simp[hl])]
  rfl
 rw[e2,e,List.take_left' h27]
 simp[CS.row,PT.row]
theorem frzO_rd (id:Nat) (o:Ob) (bs:List UInt8) (q:Int):frzO id o (rdOb bs q)=rdOb bs q:=frzO_closed id o _ (by simp[rdOb,clR])
def drO (bs:List UInt8) (x:Int×DK×CO×List BS):List (Nat×Ob) :=
  [(1000,rdOb bs x.1),(2,⟨3,[[.nils,.nils,.nils]]⟩),(3,⟨7,[zCO]⟩),(4,⟨3,[x.2.1.row]⟩),
   (5,⟨7,[[.int .i64 x.2.2.1.txg,.sl 901 0 x.2.2.1.sets.length,.sl 902 0 x.2.2.1.ddt.length,.sl 903 0 x.2.2.1.parts.length,.bool x.2.2.1.dirty,.sl 904 0 x.2.2.1.safe.length,.int .i64 x.2.2.1.logn]]⟩),
   (7,⟨1,[[.lst 11 (x.2.2.2.map BS.row)]]⟩),(901,kcs x.2.2.1.sets),(902,deOb x.2.2.1.ddt),(903,kpt x.2.2.1.parts),(904,kin x.2.2.1.safe)]
def drT:List (Nat×AV):=[(0,.ptr 1000 0 0),(2,.ptr 2 0 0),(3,.ptr 3 0 0),(4,.ptr 4 0 0),(5,.ptr 5 0 0),(7,.ptr 7 0 0)]
def drU:List Nat:=[1000,1000,2,3,4,5,7,901,902,903,904]
def drS (bs:List UInt8) (x:Int×DK×CO×List BS):S:=⟨mkT drT,hpOf (drO bs x),Us.of drU⟩
def drS8 (bs:List UInt8) (x:Nat×(Int×DK×CO×List BS)):S:=⟨mkT (drT++[(8,.int .i64 x.1)]),hpOf (drO bs x.2),Us.of drU⟩
def drS16 (bs:List UInt8) (x:Nat×(Int×DK×CO×List BS)):S:=⟨mkT (drT++[(16,.int .i64 x.1)]),hpOf (drO bs x.2),Us.of drU⟩
def drG (p k:Int) (x:Int×DK×CO×List BS):Prop:=p≤x.1∧x.1≤p+k∧Rch x.2.1 x.2.2.1∧BkG x.2.2.2∧x.2.2.2.length≤31
def drPhi (a b e f:Nat):List (Nat×Nat):=[(1000,1000),(2,2),(3,3),(4,4),(5,5),(7,7),(a,901),(b,902),(e,903),(f,904)]
def drF (bs:List UInt8) (x:Int×DK×CO):S:=⟨mkT [(0,.ptr 1000 0 0),(2,.ptr 2 0 0),(3,.ptr 3 0 0),(4,.ptr 4 0 0),(5,.ptr 5 0 0)],hpOf [(1000,rdOb bs x.1),(2,⟨3,[[.nils,.nils,.nils]]⟩),(3,⟨7,[zCO]⟩),(4,⟨3,[x.2.1.row]⟩),(5,⟨7,[x.2.2.row]⟩)],Us.of [1000,1000,2,3,4,5]⟩
def drR (bs:List UInt8) (p:Int) (r:AV) (L':List (Nat×Ob)):Prop:=∃ (q:Int) (d:DK) (c:CO),p≤q∧q≤p+1000∧DrP d c∧r=.tup [.agg d.row,.agg c.row]∧L'=[(1000,rdOb bs q)]
theorem drawnC (bs:List UInt8) (p:Int) (hp:0≤p∧p<600000000) (hb:bs.length≤2000):ACall prog 14 [.ptr 1000 0 0] [(1000,rdOb bs p)] (drR bs p):=by
 refine acv func14 [(31,[zI 0,zJ 1 [5] [],zJ 2 [] [5],zJ 3 [5] [5],zJ 4 [902] [5],zJ 5 [] [5],zJ 6 [902] [5],zJ 7 [] [5],zJ 8 [902] [],zI 9,zI 10]),(38,[zI 0,zJ 1 [5] [],zJ 2 [] [5],zJ 3 [] [5],zJ 4 [] [5],zJ 5 [901] [],zI 6,zI 7,zI 8]),(39,[zJ 0 [4] [],zJ 1 [5] [4],zJ 2 [] [5],zI 3])] ntmps14 rfl rfl rfl ?_
 refine va_seq (qal _ ?_)
 simp -implicitDefEqProofs
 refine va_seq (qal _ ?_)
 simp -implicitDefEqProofs
 refine callNum (p:=p) [50,60,80,120] (by omega) hb (by simp) (by omega) (by simp[i64Ob,i64Row]) (by simp) (by simp) (by simp) fun n hn=>?_
 have hn:n=50∨n=60∨n=80∨n=120:=by simpa using hn
 simp -implicitDefEqProofs
 refine qac [] (by kernel_rfl) (sNewQ n (by omega)) (by simp) (by simp) trivial (by simp) (by simp) ?_
 rintro r L' ⟨rfl,rfl⟩
 have hR:=Rch.new n hn
 generalize (qak (opnB n) zK).1=d at *
 generalize (qak (opnB n) zK).2.1=c at *
 refine⟨[(911,911),(912,912),(913,913),(901,901),(902,902),(903,903),(904,904)],⟨by simp,by simp,by simp,by simp,by simp⟩,?_⟩
 simp only[qae]
 simp -implicitDefEqProofs [dA,coreA]
 refine va_seq (qal _ ?_)
 simp -implicitDefEqProofs
 refine va_cutV (drS bs) (drG p 700) ?_ ?_
 ·refine va_seq (qal _ ?_)
  simp -implicitDefEqProofs
  refine callNum (p:=p+1) [0,4,10,20,30] (by omega) hb (by simp) (by omega) (by simp[i64Ob,i64Row]) (by simp) (by simp) (by simp) fun k hk=>?_
  have hk:0≤k∧k≤30:=by
   simp only[List.mem_cons,List.not_mem_nil,or_false]at hk
   omega
  simp -implicitDefEqProofs
  refine va_block (va_lpW (drS8 bs) (fun x=>x.1) (fun x=>x.1≤30∧p≤x.2.1∧x.2.1+21 * x.1≤p+2+21 * 30∧Rch x.2.2.1 x.2.2.2.1∧BkG x.2.2.2.2∧x.2.2.2.2.length+x.1≤30) (k.toNat,p+1+1,d,c,[]) ⟨⟨by simp only;omega,by simp only;omega,by simp only;omega,hR,by simp[BkG],by simp;omega⟩,?_⟩ ?_)
  ·refine(sw_imp1 7 (a:=.nils) (b:=.lst 11 []) (by simp) (qby 11)).trans (sw_fr3 (a:=911) (b:=912) (e:=913) (d:=d) (by simp) (by simp) (by simp) (by simp) (by simp) (by simp) (by simp) (by simp) [0,2,3,4,5,7,8] (drPhi 901 902 903 904) (by simp[qab,drPhi]) ?_)
   have e:((k.toNat:Nat):Int)=k:=by omega
   simp[-frzO,canon,obOf,drS8,drPhi,drT,drO,drU,e,frzO_rd,qbd]
   simp[frzO,strOb,ltOb,qap,zCO,DK.row]
  ·rintro⟨i,q,d,c,b⟩ ⟨g1,g2,g3,g4,g5,g6⟩
   simp only at g1 g2 g3 g4 g5 g6
   by_cases hi:i=0
   ·subst hi
    refine va_seq (qal _ ?_)
    simp -implicitDefEqProofs [drS8,drT,drO,drU,qbw]
    exact⟨(q,d,c,b),⟨by simp only;omega,by simp only;omega,g4,g5,by simp only;omega⟩,sw_can [0,2,3,4,5,7] (drPhi 901 902 903 904) (by simp[qab,drPhi]) (by simp[-frzO,canon,obOf,drS,drPhi,drT,drO,drU,qbd,DK.row,zCO])⟩
   ·have hi1:(0:Int)<i:=by omega
    refine va_seq (qal _ ?_)
    simp -implicitDefEqProofs [drS8,drT,drO,drU,qbw,hi,hi1]
    intro _
    refine va_cutV (fun x=>drS8 bs (i,x)) (fun x=>p≤x.1∧x.1+21 * (i-1:Nat)≤p+2+21 * 30∧Rch x.2.1 x.2.2.1∧BkG x.2.2.2∧x.2.2.2.length+(i-1)≤30) (va_block (qal _ ?_)) ?_
    ·simp -implicitDefEqProofs
     refine callPick (p:=q) (by omega) hb (by simp) fun j hj _=>?_
     have hj:=hj (by omega)
     simp -implicitDefEqProofs [DK.row]
     refine⟨fun q1=>?_,fun q1=>?_⟩
     ·have cc:=sCommitQ d (dOk_T g4.ok.1) c g4.ok.2.1
      simp only[DK.row,CO.row]at cc
      refine callA_vw [] (by kernel_rfl) cc (by simp[vwOk,mtA,kcs,deOb,kpt,kin,qap,cs_cl]) (by simp) trivial (by simp) (by simp) ?_
      rintro r L' (⟨h0,rfl,rfl⟩ | ⟨h0,rfl,rfl⟩)
      ·have hN:=Rch.com g4 h0
       generalize qak d c=W at *
       obtain⟨wd,wc,wn⟩:=W
       simp only at h0 hN
       subst h0
       refine⟨by simp[dA,coreA],by simp[strOb,ltOb,kcs,deOb,kpt,kin,qav,LT.row,qaw,DE.row,PT.row,noL_cs],[(911,921),(912,922),(913,923),(901,931),(902,932),(903,933),(904,934)],⟨by simp,by simp,by simp,by simp,by simp⟩,?_⟩
       simp only[qae]
       simp -implicitDefEqProofs [dA,coreA,qbw]
       exact qbn (q+1,wd,wc,b) ⟨by simp only;omega,by simp only;omega,hN,g5,by simp only;omega⟩ (sw_fr3 (a:=921) (b:=922) (e:=923) (d:=wd) (by simp) (by simp) (by simp) (by simp) (by simp) (by simp) (by simp) (by simp) [0,2,3,4,5,7,8] (drPhi 931 932 933 934) (by simp[qab,drPhi]) (by simp[-frzO,canon,obOf,drS8,drPhi,drT,drO,drU,frzO_rd,qbd];simp[frzO,strOb,ltOb,qap,zCO,DK.row,kcs,deOb,kpt,kin]))
      ·refine⟨by simp[tops],by simp,[],⟨by simp,by simp,by simp,by simp,by simp⟩,?_⟩
       simp only[qae]
       simp -implicitDefEqProofs [tops,qbw,h0]
       exact qbn (q+1,d,c,b) ⟨by simp only;omega,by simp only;omega,g4,g5,by simp only;omega⟩ (sw_can [0,2,3,4,5,7,8] (drPhi 901 902 903 904) (by simp[qab,drPhi]) (by simp[-frzO,canon,obOf,drS8,drPhi,drT,drO,drU,qbd,DK.row,zCO]))
     ·refine qac [(1000,.whole 1000)] (by kernel_rfl) (opC bs (q+1) b (by omega) hb (by omega) g5) (by simp[bk]) (by simp) (by simp) (by simp) (by simp) ?_
      rintro r L' ⟨o,q',ho,u1,u2,rfl,rfl⟩
      refine⟨[],⟨by simp,by simp,by simp,by simp,by simp⟩,?_⟩
      simp only[qae]
      simp -implicitDefEqProofs [BO.row,DK.row]
      have cc:=sCallQ d g4.ok.1 c g4.ok.2.1 g4.ok.2.2.1 o (op_ln ho).1 (op_ln ho).2 (by have:=ho.t;omega)
      simp only[DK.row,CO.row,BO.row]at cc
      refine callA_vw [] (by kernel_rfl) cc (by simp[vwOk,mtA,kcs,deOb,kpt,kin,qap,cs_cl]) (by simp) trivial (by simp) (by simp) ?_
      rintro r L' (⟨h0,rfl,rfl⟩ | ⟨h0,rfl,rfl⟩)
      ·have hN:=Rch.call o ho g4 h0
       generalize callB d c o=W at *
       obtain⟨wd,wc,wn⟩:=W
       simp only at h0 hN
       subst h0
       have cb:=cv_of (specDoC b o g5 (by omega) ho) (hca:=by simp[bk,BO.row]) (hcv:=by simp[bk])
       have hr:=resB_gd g5 ho
       have hrl:=resB_len b o
       simp only[bk,BO.row]at cb
       refine⟨by simp[dA,coreA],by simp[strOb,ltOb,kcs,deOb,kpt,kin,qav,LT.row,qaw,DE.row,PT.row,noL_cs],[(911,921),(912,922),(913,923),(901,931),(902,932),(903,933),(904,934)],⟨by simp,by simp,by simp,by simp,by simp⟩,?_⟩
       simp only[qae]
       simp -implicitDefEqProofs [dA,coreA,qbw]
       refine cb.call ?_
       simp -implicitDefEqProofs
       exact qbn (q',wd,wc,(resB b o).1) ⟨by simp only;omega,by simp only;omega,hN,hr,by simp only;omega⟩ (sw_fr3 (a:=921) (b:=922) (e:=923) (d:=wd) (by simp) (by simp) (by simp) (by simp) (by simp) (by simp) (by simp) (by simp) [0,2,3,4,5,7,8] (drPhi 931 932 933 934) (by simp[qab,drPhi]) (by simp[-frzO,canon,obOf,drS8,drPhi,drT,drO,drU,frzO_rd,qbd];simp[frzO,strOb,ltOb,qap,zCO,DK.row,kcs,deOb,kpt,kin]))
      ·refine⟨by simp[tops],by simp,[],⟨by simp,by simp,by simp,by simp,by simp⟩,?_⟩
       simp only[qae]
       simp -implicitDefEqProofs [tops,qbw,h0]
       exact qbn (q',d,c,b) ⟨by simp only;omega,by simp only;omega,g4,g5,by simp only;omega⟩ (sw_can [0,2,3,4,5,7,8] (drPhi 901 902 903 904) (by simp[qab,drPhi]) (by simp[-frzO,canon,obOf,drS8,drPhi,drT,drO,drU,qbd,DK.row,zCO]))
    ·rintro⟨q,d,c,b⟩ ⟨u1,u2,u3,u4,u5⟩
     simp only at u1 u2 u3 u4 u5
     have e2:=i64w ((i:Int)-1) (by omega) (by omega)
     have e3:((i-1:Nat):Int)=(i:Int)-1:=by omega
     refine qal _ ?_
     simp -implicitDefEqProofs [drS8,drT,drO,drU,e2]
     exact nextW_of (i-1,q,d,c,b) (by simp only;omega) ⟨by simp only;omega,u1,u2,u3,u4,u5⟩ (sw_can [0,2,3,4,5,7,8] (drPhi 901 902 903 904) (by simp[qab,drPhi]) (by simp[-frzO,canon,obOf,drS8,drPhi,drT,drO,drU,qbd,DK.row,zCO,e3]))
 rintro⟨q,d,c,b⟩ ⟨g1,g2,g3,g4,g5⟩
 simp only at g1 g2 g3 g4 g5
 refine va_cutV (drS bs) (drG p 900) ?_ ?_
 ·refine va_seq (qal _ ?_)
  simp -implicitDefEqProofs [drS,drT,drO,drU]
  refine callNum (p:=q) [0,0,6,8,8] (by omega) hb (by simp) (by omega) (by simp[i64Ob,i64Row]) (by simp) (by simp) (by simp) fun k hk=>?_
  have hk:0≤k∧k≤8:=by
   simp only[List.mem_cons,List.not_mem_nil,or_false]at hk
   omega
  have e:((k.toNat:Nat):Int)=k:=by omega
  simp -implicitDefEqProofs
  refine va_block (va_lpW (drS16 bs) (fun x=>x.1) (fun x=>x.1≤8∧p≤x.2.1∧x.2.1+21 * x.1≤p+701+21 * 8∧Rch x.2.2.1 x.2.2.2.1∧BkG x.2.2.2.2∧x.2.2.2.2.length≤31) (k.toNat,q+1,d,c,b) ⟨⟨by simp only;omega,by simp only;omega,by simp only;omega,g3,g4,g5⟩,?_⟩ ?_)
  ·exact sw_can [0,2,3,4,5,7,16] (drPhi 901 902 903 904) (by simp[qab,drPhi]) (by simp[-frzO,canon,obOf,drS16,drPhi,drT,drO,drU,qbd,DK.row,zCO,e])
  ·rintro⟨i,q,d,c,b⟩ ⟨g1,g2,g3,g4,g5,g6⟩
   simp only at g1 g2 g3 g4 g5 g6
   by_cases hi:i=0∨b=[]
   ·refine va_seq (qal _ ?_)
    rcases hi with rfl | rfl
    ·simp -implicitDefEqProofs [drS16,drT,drO,drU,qbw]
     exact⟨(q,d,c,b),⟨by simp only;omega,by simp only;omega,g4,g5,g6⟩,(sw_can [0,2,3,4,5,7] (drPhi 901 902 903 904) (by simp[qab,drPhi]) (by simp[-frzO,canon,obOf,drS,drPhi,drT,drO,drU,qbd,DK.row,zCO]))⟩
    ·simp -implicitDefEqProofs [drS16,drT,drO,drU,qbw]
     refine⟨fun _=>?_,fun _=>?_⟩
     all_goals exact⟨(q,d,c,[]),⟨by simp only;omega,by simp only;omega,g4,g5,g6⟩,(sw_can [0,2,3,4,5,7] (drPhi 901 902 903 904) (by simp[qab,drPhi]) (by simp[-frzO,canon,obOf,drS,drPhi,drT,drO,drU,qbd,DK.row,zCO]))⟩
   ·simp only[not_or]at hi
    have hi1:(0:Int)<i:=by omega
    have hi2:0<b.length:=List.length_pos_iff.2 hi.2
    refine va_seq (qal _ ?_)
    simp -implicitDefEqProofs [drS16,drT,drO,drU,qbw,hi.1,hi.2,hi1,hi2]
    intro _
    refine va_cutV (fun x=>drS16 bs (i,x)) (fun x=>p≤x.1∧x.1+21 * (i-1:Nat)≤p+701+21 * 8∧Rch x.2.1 x.2.2.1∧BkG x.2.2.2∧x.2.2.2.length≤31) (va_block (qal _ ?_)) ?_
    ·simp -implicitDefEqProofs
     refine qac [(1000,.whole 1000)] (by kernel_rfl) (opC bs q b (by omega) hb (by omega) g5) (by simp[bk]) (by simp) (by simp) (by simp) (by simp) ?_
     rintro r L' ⟨o,q',ho,u1,u2,rfl,rfl⟩
     refine⟨[],⟨by simp,by simp,by simp,by simp,by simp⟩,?_⟩
     simp only[qae]
     simp -implicitDefEqProofs [BO.row,DK.row]
     have ho2:OpG ⟨3,o.a,o.b,o.i,o.text⟩:=⟨ho.a,ho.b,ho.t⟩
     have cc:=sCallQ d g4.ok.1 c g4.ok.2.1 g4.ok.2.2.1 ⟨3,o.a,o.b,o.i,o.text⟩ (op_ln ho2).1 (op_ln ho2).2 (by have:=ho.t;simp only;omega)
     simp only[DK.row,CO.row,BO.row]at cc
     refine callA_vw [] (by kernel_rfl) cc (by simp[vwOk,mtA,kcs,deOb,kpt,kin,qap,cs_cl]) (by simp) trivial (by simp) (by simp) ?_
     rintro r L' (⟨h0,rfl,rfl⟩ | ⟨h0,rfl,rfl⟩)
     ·have hN:=Rch.call _ ho2 g4 h0
      generalize callB d c ⟨3,o.a,o.b,o.i,o.text⟩=W at *
      obtain⟨wd,wc,wn⟩:=W
      simp only at h0 hN
      subst h0
      refine⟨by simp[dA,coreA],by simp[strOb,ltOb,kcs,deOb,kpt,kin,qav,LT.row,qaw,DE.row,PT.row,noL_cs],[(911,921),(912,922),(913,923),(901,931),(902,932),(903,933),(904,934)],⟨by simp,by simp,by simp,by simp,by simp⟩,?_⟩
      simp only[qae]
      simp -implicitDefEqProofs [dA,coreA,qbw]
      refine⟨fun q1=>?_,fun q1=>?_⟩
      ·exact qbn (q',wd,wc,b) ⟨by simp only;omega,by simp only;omega,hN,g5,g6⟩ (sw_fr3 (a:=921) (b:=922) (e:=923) (d:=wd) (by simp) (by simp) (by simp) (by simp) (by simp) (by simp) (by simp) (by simp) [0,2,3,4,5,7,16] (drPhi 931 932 933 934) (by simp[qab,drPhi]) (by simp[-frzO,canon,obOf,drS16,drPhi,drT,drO,drU,frzO_rd,qbd];simp[frzO,strOb,ltOb,qap,zCO,DK.row,kcs,deOb,kpt,kin]))
      ·exact qbn (q',d,c,b) ⟨by simp only;omega,by simp only;omega,g4,g5,g6⟩ (sw_can [0,2,3,4,5,7,16] (drPhi 901 902 903 904) (by simp[qab,drPhi]) (by simp[-frzO,canon,obOf,drS16,drPhi,drT,drO,drU,qbd,DK.row,zCO]))
     ·refine⟨by simp[tops],by simp,[],⟨by simp,by simp,by simp,by simp,by simp⟩,?_⟩
      simp only[qae]
      simp -implicitDefEqProofs [tops,qbw,h0]
      exact qbn (q',d,c,b) ⟨by simp only;omega,by simp only;omega,g4,g5,g6⟩ (sw_can [0,2,3,4,5,7,16] (drPhi 901 902 903 904) (by simp[qab,drPhi]) (by simp[-frzO,canon,obOf,drS16,drPhi,drT,drO,drU,qbd,DK.row,zCO]))
    ·rintro⟨q,d,c,b⟩ ⟨u1,u2,u3,u4,u5⟩
     simp only at u1 u2 u3 u4 u5
     have e2:=i64w ((i:Int)-1) (by omega) (by omega)
     have e3:((i-1:Nat):Int)=(i:Int)-1:=by omega
     refine qal _ ?_
     simp -implicitDefEqProofs [drS16,drT,drO,drU,e2]
     exact nextW_of (i-1,q,d,c,b) (by simp only;omega) ⟨by simp only;omega,u1,u2,u3,u4,u5⟩ (sw_can [0,2,3,4,5,7,16] (drPhi 901 902 903 904) (by simp[qab,drPhi]) (by simp[-frzO,canon,obOf,drS16,drPhi,drT,drO,drU,qbd,DK.row,zCO,e3]))
 rintro⟨q,d,c,b⟩ ⟨g1,g2,g3,g4,g5⟩
 simp only at g1 g2 g3 g4 g5
 refine va_cutV (drF bs) (fun x=>p≤x.1∧x.1≤p+1000∧DrP x.2.1 x.2.2) ?_ ?_
 ·refine va_seq (qal _ ?_)
  simp -implicitDefEqProofs [drS,drT,drO,drU]
  refine callPick (p:=q) (by omega) hb (by simp) fun k hk _=>?_
  have hk:=hk (by omega)
  simp -implicitDefEqProofs
  refine va_block (qal _ ?_)
  by_cases k0:k=0
  ·simp -implicitDefEqProofs [k0,qbw]
   refine callNum (p:=q+1) [-1,1000000,1000001] (by omega) hb (by simp) (by omega) (by simp[i64Ob,i64Row]) (by simp) (by simp) (by simp) fun t ht=>?_
   simp -implicitDefEqProofs
   exact qbn (q+1+1,d,⟨t,c.sets,c.ddt,c.parts,c.dirty,c.safe,c.logn⟩) ⟨by simp only;omega,by simp only;omega,c,g3,.inr (.inl ⟨t,by simpa using ht,rfl⟩)⟩ (sw_fr4 (a:=901) (b:=902) (e:=903) (f:=904) (c:=⟨t,c.sets,c.ddt,c.parts,c.dirty,c.safe,c.logn⟩) (by simp[kcs,deOb,kpt,kin]) (by simp[kcs,deOb,kpt,kin]) (by simp[kcs,deOb,kpt,kin]) (by simp[kcs,deOb,kpt,kin]) (by simp) (by simp) (by simp) (by simp) (by simp) (by simp) [0,2,3,4,5] [(1000,1000),(2,2),(3,3),(4,4),(5,5)] (by simp[qab]) (by simp[-frzO,canon,obOf,drF,frzO_rd,qbd];simp[frzO,qap,zCO,DK.row,CO.row,kcs,deOb,kpt,kin]))
  by_cases k1:k=1
  ·cases hdd:c.ddt with
   | nil =>
    simp -implicitDefEqProofs [k1,hdd,qbw]
    exact qbn (q+1,d,c) ⟨by simp only;omega,by simp only;omega,c,g3,.inl rfl⟩ (sw_fr4 (a:=901) (b:=902) (e:=903) (f:=904) (c:=c) (by simp[kcs,deOb,kpt,kin,hdd]) (by simp[kcs,deOb,kpt,kin,hdd]) (by simp[kcs,deOb,kpt,kin,hdd]) (by simp[kcs,deOb,kpt,kin,hdd]) (by simp) (by simp) (by simp) (by simp) (by simp) (by simp) [0,2,3,4,5] [(1000,1000),(2,2),(3,3),(4,4),(5,5)] (by simp[qab]) (by simp[-frzO,canon,obOf,drF,frzO_rd,qbd,hdd];simp[frzO,qap,zCO,DK.row,CO.row,kcs,deOb,kpt,kin,hdd]))
   | cons e r =>
    have hec:=(ddt_ec (core_ddt g3.ok.2.2.1)).2 e (by rw[hdd];simp)
    have e2:=i64w (e.ec+1) (by omega) (by omega)
    simp -implicitDefEqProofs [k1,hdd,qbw,deOb,DE.row,e2]
    exact qbn (q+1,d,⟨c.txg,c.sets,⟨e.es,e.ea,e.ec+1⟩::r,c.parts,c.dirty,c.safe,c.logn⟩) ⟨by simp only;omega,by simp only;omega,c,g3,.inr (.inr (.inl ⟨e,r,hdd,rfl⟩))⟩ (sw_fr4 (a:=901) (b:=902) (e:=903) (f:=904) (c:=⟨c.txg,c.sets,⟨e.es,e.ea,e.ec+1⟩::r,c.parts,c.dirty,c.safe,c.logn⟩) (by simp[kcs,deOb,kpt,kin,hdd,DE.row]) (by simp[kcs,deOb,kpt,kin,hdd,DE.row]) (by simp[kcs,deOb,kpt,kin,hdd,DE.row]) (by simp[kcs,deOb,kpt,kin,hdd,DE.row]) (by simp) (by simp) (by simp) (by simp) (by simp) (by simp) [0,2,3,4,5] [(1000,1000),(2,2),(3,3),(4,4),(5,5)] (by simp[qab]) (by simp[-frzO,canon,obOf,drF,frzO_rd,qbd,hdd,DE.row];simp[frzO,qap,zCO,DK.row,CO.row,kcs,deOb,kpt,kin,hdd,DE.row]))
  by_cases k2:k=2
  ·have hsl:=g3.ok.2.1.safe
   have hk1:=qap qaw c.safe
   have hk2:List.take (c.safe.length+1) (List.map qaw c.safe++[[AV.int IntKind.i64 12]])=List.map qaw c.safe++[[AV.int IntKind.i64 12]]:=List.take_of_length_le (by simp)
   simp -implicitDefEqProofs [k2,qbw,kin]
   refine⟨by omega,?_⟩
   exact qbn (q+1,d,⟨c.txg,c.sets,c.ddt,c.parts,c.dirty,c.safe++[12],c.logn⟩) ⟨by simp only;omega,by simp only;omega,c,g3,.inr (.inr (.inr (.inl rfl)))⟩ (sw_fr4 (a:=901) (b:=902) (e:=903) (f:=135) (c:=⟨c.txg,c.sets,c.ddt,c.parts,c.dirty,c.safe++[12],c.logn⟩) (by simp[kcs,deOb,kpt,kin,qaw,hk1,hk2]) (by simp[kcs,deOb,kpt,kin,qaw,hk1,hk2]) (by simp[kcs,deOb,kpt,kin,qaw,hk1,hk2]) (by simp[kcs,deOb,kpt,kin,qaw,hk1,hk2]) (by simp) (by simp) (by simp) (by simp) (by simp) (by simp) [0,2,3,4,5] [(1000,1000),(2,2),(3,3),(4,4),(5,5)] (by simp[qab]) (by simp[-frzO,canon,obOf,drF,frzO_rd,qbd,qaw,hk1,hk2];simp[frzO,qap,zCO,DK.row,CO.row,kcs,deOb,kpt,kin,qaw,hk1,hk2]))
  by_cases k3:k=3
  ·simp -implicitDefEqProofs [k3,qbw]
   refine callNum (p:=q+1) [-1,8,9] (by omega) hb (by simp) (by omega) (by simp[i64Ob,i64Row]) (by simp) (by simp) (by simp) fun t ht=>?_
   simp -implicitDefEqProofs
   exact qbn (q+1+1,d,⟨c.txg,c.sets,c.ddt,c.parts,c.dirty,c.safe,t⟩) ⟨by simp only;omega,by simp only;omega,c,g3,.inr (.inr (.inr (.inr (.inl ⟨t,by simpa using ht,rfl⟩))))⟩ (sw_fr4 (a:=901) (b:=902) (e:=903) (f:=904) (c:=⟨c.txg,c.sets,c.ddt,c.parts,c.dirty,c.safe,t⟩) (by simp[kcs,deOb,kpt,kin]) (by simp[kcs,deOb,kpt,kin]) (by simp[kcs,deOb,kpt,kin]) (by simp[kcs,deOb,kpt,kin]) (by simp) (by simp) (by simp) (by simp) (by simp) (by simp) [0,2,3,4,5] [(1000,1000),(2,2),(3,3),(4,4),(5,5)] (by simp[qab]) (by simp[-frzO,canon,obOf,drF,frzO_rd,qbd];simp[frzO,qap,zCO,DK.row,CO.row,kcs,deOb,kpt,kin]))
  by_cases k4:k=4
  ·cases hss:c.sets with
   | nil =>
    simp -implicitDefEqProofs [k4,hss,qbw]
    exact qbn (q+1,d,c) ⟨by simp only;omega,by simp only;omega,c,g3,.inl rfl⟩ (sw_fr4 (a:=901) (b:=902) (e:=903) (f:=904) (c:=c) (by simp[kcs,deOb,kpt,kin,hss]) (by simp[kcs,deOb,kpt,kin,hss]) (by simp[kcs,deOb,kpt,kin,hss]) (by simp[kcs,deOb,kpt,kin,hss]) (by simp) (by simp) (by simp) (by simp) (by simp) (by simp) [0,2,3,4,5] [(1000,1000),(2,2),(3,3),(4,4),(5,5)] (by simp[qab]) (by simp[-frzO,canon,obOf,drF,frzO_rd,qbd,hss];simp[frzO,qap,zCO,DK.row,CO.row,kcs,deOb,kpt,kin,hss]))
   | cons e r =>
    have h8:=g3.ok.2.1.m8 e (by rw[hss];simp)
    simp -implicitDefEqProofs [k4,hss,qbw,kcs]
    refine callNum (p:=q+1) [-1,120,13] (by omega) hb (by simp) (by omega) (by simp[i64Ob,i64Row]) (by simp) (by simp) (by simp) fun t ht=>?_
    simp -implicitDefEqProofs [qay e h8]
    have hrow:=cs_hset e h8 t
    exact qbn (q+1+1,d,⟨c.txg,⟨e.name,e.kind,e.frm,e.map,⟨t,e.home.ps,e.home.pb⟩,e.dirty⟩::r,c.ddt,c.parts,c.dirty,c.safe,c.logn⟩) ⟨by simp only;omega,by simp only;omega,c,g3,.inr (.inr (.inr (.inr (.inr ⟨e,r,t,by simpa using ht,hss,rfl⟩))))⟩ (sw_fr4 (a:=901) (b:=902) (e:=903) (f:=904) (c:=⟨c.txg,⟨e.name,e.kind,e.frm,e.map,⟨t,e.home.ps,e.home.pb⟩,e.dirty⟩::r,c.ddt,c.parts,c.dirty,c.safe,c.logn⟩) (by simp[kcs,deOb,kpt,kin,hss,hrow]) (by simp[kcs,deOb,kpt,kin,hss,hrow]) (by simp[kcs,deOb,kpt,kin,hss,hrow]) (by simp[kcs,deOb,kpt,kin,hss,hrow]) (by simp) (by simp) (by simp) (by simp) (by simp) (by simp) [0,2,3,4,5] [(1000,1000),(2,2),(3,3),(4,4),(5,5)] (by simp[qab]) (by simp[-frzO,canon,obOf,drF,frzO_rd,qbd,hss,hrow];simp[frzO,qap,zCO,DK.row,CO.row,kcs,deOb,kpt,kin,hss,hrow]))
  simp -implicitDefEqProofs [k0,k1,k2,k3,k4,qbw]
  exact qbn (q+1,d,c) ⟨by simp only;omega,by simp only;omega,c,g3,.inl rfl⟩ (sw_fr4 (a:=901) (b:=902) (e:=903) (f:=904) (c:=c) (by simp[kcs,deOb,kpt,kin]) (by simp[kcs,deOb,kpt,kin]) (by simp[kcs,deOb,kpt,kin]) (by simp[kcs,deOb,kpt,kin]) (by simp) (by simp) (by simp) (by simp) (by simp) (by simp) [0,2,3,4,5] [(1000,1000),(2,2),(3,3),(4,4),(5,5)] (by simp[qab]) (by simp[-frzO,canon,obOf,drF,frzO_rd,qbd];simp[frzO,qap,zCO,DK.row,CO.row,kcs,deOb,kpt,kin]))
 ·rintro⟨q,d,c⟩ ⟨g1,g2,g3⟩
  simp only at g1 g2 g3
  refine qal _ ?_
  simp -implicitDefEqProofs [drF,DK.row,CO.row,zCO]
  exact⟨[(1000,rdOb bs q)],by simp,q,d,c,g1,g2,g3,by simp[DK.row,CO.row],rfl⟩
end Go.Av.F

end
section
namespace Go.Av.F
open Go Go.Av Go.Proofs Go.Proofs.Tryz
def AllP (Q:PT→Prop) (l:List CS):Prop:=∀ s∈l,∀ p∈s.map,Q p
theorem commit_maps {d:DK} {c:CO} (hz:(qak d c).2.2=0):∀ s∈(qak d c).2.1.sets,∃ t∈c.sets,s.map=t.map∧s.name=t.name∧s.frm=t.frm∧s.kind=t.kind:=by
 have hD:qak d c=doneB d c∧(doneB d c).2.2=0:=by
  unfold qak at hz ⊢
  split at hz
  ·simp at hz
  ·rename_i h1
   rw[if_neg h1]
   split at hz
   ·simp at hz
   ·rename_i h2
    rw[if_neg h2]
    split at hz
    ·rename_i h3;exact absurd hz h3
    ·rename_i h3
     rw[if_neg h3]
     exact⟨rfl,hz⟩
 rw[hD.1]
 have h:(doneB d c).2.1.sets=(setsB (c.txg+1) c.sets ⟨d,freeB c d.s0.length,true⟩).1:=by
  unfold doneB
  split
  ·rfl
  split <;> rfl
 rw[h]
 exact setsB_mem _ _ _
theorem commit_allP {Q:PT→Prop} {d:DK} {c:CO} (hz:(qak d c).2.2=0) (h:AllP Q c.sets):AllP Q (qak d c).2.1.sets:=fun s hs p hp=>by
 obtain⟨t,ht,e,_⟩:=commit_maps hz s hs
 exact h t ht p (e ▸ hp)
theorem newB_allP {Q:PT→Prop} {c:CO} {s:CS} (h:AllP Q c.sets) (hs:∀ p∈s.map,Q p):AllP Q (newB' c s).1.sets:=fun t ht p hp=>by
 simp only[newB',List.mem_append,List.mem_cons]at ht
 rcases ht with ht | rfl | ht
 ·exact h t (List.mem_of_mem_take ht) p hp
 ·exact hs p hp
 ·exact h t (List.mem_of_mem_drop ht) p hp
theorem setsD_allP {Q:PT→Prop} (hz:Q zPT) {c:CO} {op:BO} (h:AllP Q c.sets):AllP Q (setsD c op).1.sets:=by
 have hn:∀ (n:List UInt8) (k:Int) (f:List UInt8) (m:List PT),(∀ p∈m,Q p)→AllP Q (newB' c (zSet n k f m)).1.sets:=fun n k f m hm=>newB_allP h (by simpa [zSet]using hm)
 unfold setsD
 split
 ·exact hn _ _ _ _ fun p hp=>by rw[(List.mem_replicate.1 hp).2];exact hz
 ·split
  ·exact h
  ·rename_i s hs
   have hsm:=h s (List.mem_of_getElem? hs)
   split
   ·intro t ht p hp
    simp only[List.mem_append]at ht
    rcases ht with ht | ht
    ·exact h t (List.mem_of_mem_take ht) p hp
    ·exact h t (List.mem_of_mem_drop ht) p hp
   ·split
    ·exact hn _ _ _ _ hsm
    ·split
     ·exact hn _ _ _ _ hsm
     ·split
      ·exact h
      ·rename_i t ht
       have htm:=h t (List.mem_of_getElem? ht)
       intro u hu p hp
       rcases List.mem_or_eq_of_mem_set hu with hu | rfl
       ·exact h u hu p hp
       ·exact htm p hp
theorem turn_allP {Q:PT→Prop} {d:DK} {c:CO} {k i:Nat} {text:List UInt8} (hz:Q zPT) (hn:∀ a,Q (blkToB a text (c.txg+1))) (h:AllP Q c.sets):AllP Q (turnB d c k i text).2.1.sets:=by
 have hg:∀ (x:DK) (s:CS) (old now:PT),c.sets[k]?=some s→Q now→AllP Q (turnG d x c k i s old now).2.1.sets:=fun x s old now hs hq=>by
  unfold turnG
  simp only
  split
  ·exact h
  ·intro u hu p hp
   rcases List.mem_or_eq_of_mem_set hu with hu | rfl
   ·exact h u hu p hp
   ·rcases List.mem_or_eq_of_mem_set hp with hp | rfl
    ·exact h s (List.mem_of_getElem? hs) p hp
    ·exact hq
 unfold turnB
 split
 ·exact h
 ·rename_i s hs
  simp only
  split
  ·exact hg _ _ _ _ hs hz
  split
  ·exact h
  split
  ·exact h
  split
  ·exact h
  ·exact hg _ _ _ _ hs (hn _)
theorem blkTo_b {a:Int} {t:List UInt8} {n:Int} (h:0≤n):(blkToB a t n).pb≤n:=by
 unfold blkToB
 split
 ·exact h
 ·exact Int.le_refl _
theorem turn_txg {d:DK} {c:CO} {k i:Nat} {text:List UInt8}:(turnB d c k i text).2.1.txg=c.txg:=by
 have hg:∀ (x:DK) (s:CS) (old now:PT),(turnG d x c k i s old now).2.1.txg=c.txg:=fun x s old now=>by
  unfold turnG
  simp only
  split <;> rfl
 unfold turnB
 split
 ·rfl
 simp only
 split
 ·exact hg _ _ _ _
 split
 ·rfl
 split
 ·rfl
 split
 ·rfl
 ·exact hg _ _ _ _
theorem Rch.birth {d:DK} {c:CO} (h:Rch d c):AllP (fun p=>p.pb≤c.txg+1) c.sets:=by
 have mono:∀ {n m:Int} {l:List CS},n≤m→AllP (fun p=>p.pb≤n) l→AllP (fun p=>p.pb≤m) l:=fun hle h s hs p hp=>Int.le_trans (h s hs p hp) hle
 induction h with
 | new n hn =>
  have hz:=commit_new (n:=n) (by omega)
  exact commit_allP hz fun s hs=>by simp[zK]at hs
 | @com d c h hz ih =>
  have ht:=(qca h.ok.2.1 hz).2.2.2.2.2.2.1
  exact commit_allP hz (mono (by omega) ih)
 | @call d c op ho h hz ih =>
  obtain⟨hd,hT,hc,_⟩:=h.ok
  have hm:=(coreOk_M hc).1
  have htx:=(coreOk_M hc).2.2.2.2.1
  obtain⟨g0,⟨g1,g2,g3⟩ | ⟨g1,z,w,v,g2,g3,g4,g5,g6,g7,g8⟩⟩:=callB_out hz
  ·rw[g3]at hz ⊢
   have hx:(setsD c op).1.txg=c.txg:=by
    unfold setsD newB'
    repeat' split
    all_goals rfl
   have ht:=(qca (setsD_T hT hm op (op_ln ho).1 (op_ln ho).2) hz).2.2.2.2.2.2.1
   exact commit_allP hz (mono (by omega) (setsD_allP (by simp[zPT];omega) ih))
  ·rw[g8,g6]at *
   obtain⟨l1,_,_⟩:=logPut_core g7
   rw[l1]
   have hZ:AllP (fun p=>p.pb≤z.2.1.txg+1) z.2.1.sets∧0≤z.2.1.txg:=by
    split at g2
    ·subst g2
     have ht:=(qca hT g3).2.2.2.2.2.2.1
     exact⟨commit_allP g3 (mono (by omega) ih),by omega⟩
    ·subst g2
     exact⟨ih,htx⟩
   simp only
   rw[g4,turn_txg]
   exact turn_allP (by simp[zPT];omega) (fun a=>blkTo_b (by omega)) hZ.1
theorem bent_birth {d:DK} {c:CO} (h:DrP d c) (hc:qah c=true):AllP (fun p=>p.pb≤c.txg+1) c.sets:=by
 obtain⟨c0,hr,hb⟩:=h
 have hB:=hr.birth
 have ht:=(coreOk_M hr.ok.2.2.1).2.2.2.2.2.1
 have hc0:=(coreOk_M hc).2.2.2.2.1
 rcases hb with rfl | ⟨t,h1,rfl⟩ | ⟨e,q,h1,rfl⟩ | rfl | ⟨n,h1,rfl⟩ | ⟨s,q,a,h1,h2,rfl⟩
 ·exact hB
 ·simp only at hc0 ⊢
  intro s hs p hp
  have:=hB s hs p hp
  simp only at this ⊢
  omega
 ·exact hB
 ·exact hB
 ·exact hB
 ·rw[h2]at hB
  intro u hu p hp
  rcases List.mem_cons.1 hu with rfl | hu
  ·exact hB s (by simp) p hp
  ·exact hB u (by simp[hu]) p hp
theorem places_len:∀ {l:List Int} {q:Int},qbq q l=true→q≤119→(l.length:Int)+q≤119
 | [],q,_,h=>by simpa using h
 | a::r,q,h,hq=>by
  simp only[qbq,Bool.and_eq_true,decide_eq_true_eq]at h
  have:=places_len h.2 (by omega)
  simp only[List.length_cons]
  omega
theorem bent_T {d:DK} {c:CO} (h:DrP d c):CoT c:=by
 obtain⟨c0,hr,hb⟩:=h
 obtain⟨_,T,hc,_⟩:=hr.ok
 have hl:=(coreOk_iff.1 hc).2.2.2.2.1
 have hs:=places_len hl (by omega)
 rcases hb with rfl | ⟨t,h1,rfl⟩ | ⟨e,q,h1,rfl⟩ | rfl | ⟨n,h1,rfl⟩ | ⟨s,q,a,h1,h2,rfl⟩
 ·exact T
 ·exact⟨T.sets,T.ddt,T.parts,T.safe,T.m8,T.nm⟩
 ·exact⟨T.sets,by have:=T.ddt;rw[h1]at this;simpa using this,T.parts,T.safe,T.m8,T.nm⟩
 ·exact⟨T.sets,T.ddt,T.parts,by simp;omega,T.m8,T.nm⟩
 ·exact⟨T.sets,T.ddt,T.parts,T.safe,T.m8,T.nm⟩
 ·have t1:=T.sets
  have t2:=T.m8
  have t3:=T.nm
  rw[h2]at t1 t2 t3
  refine⟨by simpa using t1,T.ddt,T.parts,T.safe,fun u hu=>?_,fun u hu=>?_⟩
  ·rcases List.mem_cons.1 hu with rfl | hu
   ·exact t2 s (by simp)
   ·exact t2 u (by simp[hu])
  ·rcases List.mem_cons.1 hu with rfl | hu
   ·exact t3 s (by simp)
   ·exact t3 u (by simp[hu])
theorem since_mono (c:CO) (name:List UInt8) (t:Int):sinceB c name (t+1)≤sinceB c name t:=by
 unfold sinceB
 split
 ·refine List.countP_mono_left fun p _ h=>?_
  simp only[sinceF,Bool.and_eq_true,decide_eq_true_eq]at h ⊢
  omega
 ·exact Nat.le_refl _
theorem setR_mem {c:CO} {name:List UInt8} (h:(setR c name).2=true):qah c=true∧(setR c name).1∈c.sets:=by
 unfold setR at h ⊢
 split at h
 ·rename_i hc
  rw[if_pos hc]
  split at h
  ·rename_i s hs
   exact⟨hc,List.mem_of_find?_eq_some hs⟩
  ·cases h
 ·cases h
theorem since_zero {c:CO} (hB:qah c=true→AllP (fun p=>p.pb≤c.txg+1) c.sets) (name:List UInt8):sinceB c name (c.txg+1)=0:=by
 unfold sinceB
 split
 ·rename_i h
  obtain⟨hc,hm⟩:=setR_mem h
  rw[List.countP_eq_zero]
  intro p hp
  have:=hB hc _ hm p hp
  simp[sinceF]
  omega
 ·rfl
theorem cnt_le:∀ (m:List PT) (L:List Int),L.Nodup→(∀ a∈L,0<a)→L.countP (fun a=>decide (0<ptN a m))≤m.countP (fun p=>decide (0<p.pa))
 | [],L,_,_=>by simp[ptN]
 | p::m,L,hn,hp=>by
  have ih:=cnt_le m L hn hp
  have h1:L.countP (fun a=>decide (0<ptN a (p::m)))≤L.countP (fun a=>decide (a=p.pa))+L.countP (fun a=>decide (0<ptN a m)):=by
   clear hn hp ih
   induction L with
   | nil=>simp
   | cons a L ih =>
    simp only[List.countP_cons,ptN_cons]at ih ⊢
    split <;> split <;> split <;> simp_all <;> omega
  have h2:L.countP (fun a=>decide (a=p.pa))≤if 0<p.pa then 1 else 0:=by
   have h3:L.countP (fun a=>decide (a=p.pa))=L.count p.pa:=by
    rw[List.count]
    exact List.countP_congr fun a _=>by simp
   rw[h3]
   split
   ·exact List.nodup_iff_count.1 hn _
   ·rename_i hx
    rw[List.count_eq_zero.2 fun h=>hx (hp _ h)]
    exact Nat.le_refl _
  rw[List.countP_cons]
  simp only[decide_eq_true_eq]
  omega
end Go.Av.F

end
