/- Lemmas for the proof, no statement of the seat; no conditions. -/
import Derived.Test.YtcbjbdnmhlhijaaGreatDoorLayAP
set_option linter.unusedSimpArgs false
set_option linter.unusedVariables false
set_option linter.unnecessarySimpa false
set_option maxRecDepth 100000
section
namespace Go.Av.F
open Go Go.Av Go.Proofs Go.Proofs.Tryz
structure CoT (c:CO):Prop where
 sets:c.sets.length≤1048576
 ddt:c.ddt.length≤1048576
 parts:c.parts.length≤1048576
 safe:c.safe.length≤1048576
 m8:∀ s∈c.sets,s.map.length=8
 nm:∀ s∈c.sets,s.name.length≤1048576∧s.frm.length≤1048576
def qaj (c:CO):Bool:=decide (0≤c.txg) && decide (c.txg≤1000000) && qau c.ddt && decide (c.parts.length≤8) && qch 12 c.safe && decide (0≤c.logn) && decide (c.logn≤8) &&
 c.sets.all csOkB && c.parts.all qbe && bookOkB (c.sets.map csB) && cntOkB c && sumOkB c
theorem csOk_nm {s:CS} (h:csOkB s=true):s.name.length≤6∧s.frm.length≤6:=by
 simp only[csOkB,Bool.and_eq_true,Bool.or_eq_true,nameB,decide_eq_true_eq,List.isEmpty_iff]at h
 refine⟨h.1.1.1.1.2,?_⟩
 rcases h.1.1.1.2 with h | h
 ·simp[h]
 ·exact h.2
theorem bkG_cs {l:List CS} (h:∀ s∈l,csOkB s=true):BkG (l.map csB):=by
 intro b hb
 obtain⟨s,hs,rfl⟩:=List.mem_map.1 hb
 have:=csOk_nm (h s hs)
 simp[csB];omega
theorem sBookOk (bs:List BS) (hb:BkG bs) (hl:bs.length≤1048576):CV prog 113 [bk bs] (.bool (bookOkB bs)):=cv_of (specOkC bs hb (by omega)) (hca:=by simp[bk])
theorem iBookOk (bs:List BS) (hb:BkG bs) (hl:bs.length≤1048576):CV prog 126 [bk bs] (.bool (bookOkB bs)):=cv_of (implOkC bs hb (by omega)) (hca:=by simp[bk])
theorem sCoreOk (c:CO) (h:CoT c):CV prog 69 [.agg c.row] (.bool (qaj c)):=by
 obtain⟨R,hR⟩:∃ R,qaj c=R:=⟨_,rfl⟩
 rw[hR]
 refine cvx func69 [] ntmps69 rfl rfl rfl ?_
 simp -implicitDefEqProofs
 repeat' first
  | (refine(sDdtOkC c.ddt h.ddt).call ?_;simp -implicitDefEqProofs)
  | (refine(placesC c.safe h.safe).call ?_;simp -implicitDefEqProofs)
  | with_reducible intro _
  | with_reducible refine And.intro ?_ ?_
 all_goals try (grind[qaj];done)
 have hrest:qaj c=(c.sets.all csOkB && (c.parts.all qbe && (bookOkB (c.sets.map csB) && cntOkB c && sumOkB c))):=by grind[qaj]
 rw[hrest]at hR
 have hd:qau c.ddt=true:=by assumption
 have hpl:(c.parts.length:Int)≤8:=by assumption
 have hs1:=h.sets
 refine ev_lp (X:=Nat) [1,3] [(1,1)] (fun i=>[(3,.int .i64 i)]) (fun _=>[]) (fun i=>c.sets.length-i) (fun i=>i≤c.sets.length∧(∀ s∈c.sets.take i,csOkB s=true)∧((c.sets.drop i).all csOkB && (c.parts.all qbe && (bookOkB (c.sets.map csB) && cntOkB c && sumOkB c)))=R) 0 (by simpa using hR) ?_
 rintro i ⟨hi,hok,ha⟩
 cases hr:c.sets.drop i with
 | nil =>
  have:=dropn hr
  rw[hr]at ha
  have hie:i=c.sets.length:=by omega
  have hok':∀ s∈c.sets,csOkB s=true:=by rw[List.take_of_length_le (by omega)]at hok;exact hok
  simp -implicitDefEqProofs [hie]
  refine ev_lp (X:=Nat) [1,4] [(1,1)] (fun i=>[(4,.int .i64 i)]) (fun _=>[]) (fun i=>c.parts.length-i) (fun i=>i≤c.parts.length∧((c.parts.drop i).all qbe && (bookOkB (c.sets.map csB) && cntOkB c && sumOkB c))=R) 0 (by simpa using ha) ?_
  rintro j ⟨hj,hb⟩
  cases hq:c.parts.drop j with
  | nil =>
   have:=dropn hq
   rw[hq]at hb
   have hje:j=c.parts.length:=by omega
   simp -implicitDefEqProofs [hje]
   refine(sNamesC c h.sets h.m8).call ?_
   simp -implicitDefEqProofs
   refine(sBookOk _ (bkG_cs hok') (by simpa using h.sets)).call ?_
   simp -implicitDefEqProofs
   repeat' first
    | (refine(countsC c h.sets h.m8 hd).call ?_;simp -implicitDefEqProofs)
    | (refine(sumsC c h.sets (ddt_ec hd).1 h.m8).call ?_;simp -implicitDefEqProofs)
    | with_reducible intro _
    | with_reducible refine And.intro ?_ ?_
   all_goals grind
  | cons x r =>
   obtain⟨h1,e0,e1,h3⟩:=dropc hq
   rw[hq]at hb
   have e2:=i64w ((j:Int)+1) (by omega) (by omega)
   simp -implicitDefEqProofs [h1,e0,e1]
   refine(sPtrOkC x).call ?_
   simp -implicitDefEqProofs [h1,e0,e1,e2]
   repeat' first
    | with_reducible intro _
    | with_reducible refine And.intro ?_ ?_
   all_goals first
    | exact nx (j+1) [(1,1)] (by grind[qbe])
    | grind[qbe]
 | cons x r =>
  obtain⟨h1,e0,e1,h3⟩:=dropc hr
  have hxm:=List.mem_of_getElem? e1
  have hrl:=qas x (h.m8 x hxm)
  have ht:List.take 31 x.row=x.row:=List.take_of_length_le (by omega)
  rw[hr]at ha
  have e2:=i64w ((i:Int)+1) (by omega) (by omega)
  simp -implicitDefEqProofs [h1,e0,e1,hrl,ht]
  refine(sSetC x (h.m8 x hxm) (h.nm x hxm).1 (h.nm x hxm).2).call ?_
  simp -implicitDefEqProofs [e2]
  repeat' first
   | with_reducible intro _
   | with_reducible refine And.intro ?_ ?_
  all_goals first
   | exact nx (i+1) [(1,1)] (by rw[takeS e1];grind)
   | grind
theorem coreOk1 (p:PT):CV prog 218 [.agg p.row] (.bool (!qbe p)):=by
 refine cvx func218 [] ntmps218 rfl rfl rfl ?_
 simp -implicitDefEqProofs
 refine(realC p).call ?_
 simp -implicitDefEqProofs
theorem coreOk2 (s:CS) (h8:s.map.length=8) (hn:s.name.length≤1048576) (hf:s.frm.length≤1048576):CV prog 220 [.agg s.row] (.bool (!csOkB s)):=by
 have hl:=qas s h8
 have ht:List.take 31 s.row=s.row:=List.take_of_length_le (by omega)
 refine cvx func220 [] ntmps220 rfl rfl rfl ?_ (hca:=by simp[cs_cl])
 simp -implicitDefEqProofs [hl,ht]
 refine(iSetC s h8 hn hf).call ?_
 simp -implicitDefEqProofs
def ptZB (l:List DE) (p:PT):Bool:=decide (p.pa=0) || ptSumB l p
def cntRow (c:CO) (L:List PT) (e:DE):List AV:=[.int .i64 (ptN e.ea L)]
theorem ptN_app (a:Int) (L:List PT) (p:PT):ptN a (L++[p])=ptN a L+if p.pa=a then 1 else 0:=by
 simp[ptN,List.countP_append,List.countP_cons]
theorem cnt_same (c:CO) (L:List PT) (p:PT) (h:∀ e∈c.ddt,e.ea≠p.pa):c.ddt.map (cntRow c (L++[p]))=c.ddt.map (cntRow c L):=by
 refine List.map_congr_left fun e he=>?_
 have:=h e he
 simp[cntRow,ptN_app,Ne.symm this]
theorem cnt_set (c:CO) (L:List PT) (p:PT) (hd:qau c.ddt=true) {k:Nat} {e:DE} (hk:c.ddt[k]?=some e) (he:e.ea=p.pa) :
  (c.ddt.map (cntRow c L)).set k [.int .i64 ((ptN p.pa L:Int)+1)]=c.ddt.map (cntRow c (L++[p])):=by
 simp only[qau,Bool.and_eq_true]at hd
 have hup:=(ddtR_up hd.2).2
 apply List.ext_getElem?
 intro i
 rw[List.getElem?_set,List.getElem?_map,List.getElem?_map]
 by_cases hi:k=i
 ·subst hi
  obtain⟨hl,hk0⟩:=List.getElem?_eq_some_iff.1 hk
  simp[hl,hk0,cntRow,ptN_app,he]
 ·rw[if_neg hi]
  cases hx:c.ddt[i]? with
  | none=>rfl
  | some x =>
   have:x.ea≠p.pa:=by
    rw[← he]
    rcases Nat.lt_or_gt_of_ne hi with h | h
    ·have:=hup k i e x h hk hx;omega
    ·have:=hup i k x e h hx hk;omega
   simp[cntRow,ptN_app,Ne.symm this]
theorem cs_map24 (s:CS) (h8:s.map.length=8):List.take 24 (List.drop 3 s.row)=s.map.flatMap PT.row:=by
 obtain⟨n,k,f,m,h,d⟩:=s
 simp only at h8
 match m,h8 with
 | [p0,p1,p2,p3,p4,p5,p6,p7],_=>rfl
theorem flat_at {l:List PT} {i:Nat} {p:PT} (h:l[i]?=some p):List.take 3 (List.drop (i * 3) (l.flatMap PT.row))=p.row:=by
 induction l generalizing i with
 | nil=>simp at h
 | cons a l ih =>
  cases i with
  | zero=>simp at h;subst h;simp
  | succ i =>
   rw[← ih (i:=i) (by simpa using h)]
   simp[show(i+1) * 3=i * 3+1+1+1 by omega]
@[simp] theorem renL_cnt (ρ:Nat→Option Plc) (c:CO) (L:List PT):renL ρ ∘ cntRow c L=cntRow c L:=by
 funext e;simp[cntRow]
theorem cnt_nil (c:CO):c.ddt.map (cntRow c [])=List.replicate c.ddt.length [.int .i64 0]:=by
 have:cntRow c []=fun _=>[.int .i64 0]:=by funext e;simp[cntRow,ptN]
 rw[this,List.map_const']
@[simp] theorem renL_pts (ρ:Nat→Option Plc) (l:List PT):renL ρ (l.flatMap PT.row)=l.flatMap PT.row:=renL_closed.renL_closedL ρ _ (clL_pts l)
theorem sum3 {l:List PT} (h:l.length=8):(List.map (fun _=>3) l).sum=24:=by
 rw[List.map_const',h];rfl
theorem cs_pt {s:CS} (h:csOkB s=true) {p:PT} (hp:p∈s.map):ptOkB p=true∧0≤p.pa∧p.pa<120:=by
 simp only[csOkB,Bool.and_eq_true,List.all_eq_true]at h
 have:=h.2 p hp
 refine⟨this,?_⟩
 unfold ptOkB at this
 split at this
 ·omega
 ·simp at this;omega
theorem sum_one {l:List DE} {q:Int} (h:ddtR q l=true) (hq:0≤q) (L:List PT) (hL:∀ p∈L,0≤p.pa∧(0<p.pa→∃ e∈l,e.ea=p.pa)):((l.map fun e=>ptN e.ea L).sum)=nnN L:=by
 induction L with
 | nil =>
  clear h hL
  induction l with
  | nil=>rfl
  | cons e l ih=>simpa [ptN,nnN]using ih
 | cons p L ih =>
  have ih':=ih fun p hp=>hL p (List.mem_cons_of_mem _ hp)
  obtain⟨hp0,hpe⟩:=hL p (by simp)
  have key:∀ (l:List DE) (q:Int),0≤q→ddtR q l=true→(l.map fun e=>(if p.pa=e.ea then 1 else 0)).sum=if ∃ e∈l,e.ea=p.pa then 1 else 0:=by
   intro l
   induction l with
   | nil=>intro q _ _;simp
   | cons e l ihl =>
    intro q hq h
    have hup:=ddtR_up h
    simp only[ddtR,Bool.and_eq_true,decide_eq_true_eq]at h
    have h2:=ihl e.ea (by omega) h.2
    simp only[List.map_cons,List.sum_cons,h2]
    by_cases he:p.pa=e.ea
    ·have:¬ ∃ x∈l,x.ea=p.pa:=by
      rintro⟨x,hx,hxe⟩
      have:=((ddtR_up h.2).1 x hx).1;omega
     simp[he]at this ⊢
     exact this
    ·have:e.ea≠p.pa:=fun h=>he h.symm
     simp[he,this]
  have hk:=key l q hq h
  have hadd:∀ (l:List DE),(l.map fun e=>ptN e.ea (p::L)).sum=(l.map fun e=>(if p.pa=e.ea then 1 else 0)).sum+(l.map fun e=>ptN e.ea L).sum:=by
   intro l
   induction l with
   | nil=>rfl
   | cons e l ih=>simp only[List.map_cons,List.sum_cons];rw[ih,ptN_cons];omega
  rw[hadd,hk,ih',nnN_cons]
  congr 1
  by_cases h0:0<p.pa
  ·rw[if_pos (hpe h0),if_pos h0]
  ·rw[if_neg,if_neg h0]
   rintro⟨e,he,hee⟩
   have:=((ddtR_up h).1 e he).1;omega
theorem sumEc_eq {l:List DE} {L:List PT} (h:∀ e∈l,(ptN e.ea L:Int)=e.ec):sumEc l=((l.map fun e=>ptN e.ea L).sum:Nat):=by
 induction l with
 | nil=>rfl
 | cons e l ih =>
  have h1:=h e (by simp)
  have h2:=ih fun e he=>h e (List.mem_cons_of_mem _ he)
  simp only[sumEc,List.map_cons,List.sum_cons,h2];omega
theorem ptN_refs {l:List DE} {q:Int} (h:ddtR q l=true) (hq:0≤q) (L:List CS) {e:DE} (he:e∈l):refsB e.ea L=ptN e.ea (qbm L):=by
 have:=((ddtR_up h).1 e he).1
 unfold refsB;rw[if_pos (by omega)]
theorem cntSum (c:CO) (h:CoT c) (hd:qau c.ddt=true) (hs:∀ s∈c.sets,csOkB s=true) :
  (cntOkB c && sumOkB c)=((qbm c.sets).all (ptZB c.ddt) && c.ddt.all fun e=>decide ((ptN e.ea (qbm c.sets):Int)=e.ec)):=by
 have hd2:=hd
 simp only[qau,Bool.and_eq_true,decide_eq_true_eq]at hd2
 have hpa:∀ p∈qbm c.sets,0≤p.pa:=fun p hp=>by
  obtain⟨s,hs1,hs2⟩:=List.mem_flatMap.1 hp
  exact(cs_pt (hs s hs1) hs2).2.1
 have e1:(qbm c.sets).all (ptZB c.ddt)=sumOkB c:=by
  unfold sumOkB
  rw[Bool.eq_iff_iff,List.all_eq_true,List.all_eq_true]
  refine forall_congr' fun p=>forall_congr' fun hp=>?_
  have:=hpa p hp
  simp only[ptZB,Bool.or_eq_true,decide_eq_true_eq]
  constructor
  ·rintro(h | h)
   ·simp[ptSumB,h]
   ·exact h
  ·exact .inr
 have e2:(c.ddt.all fun e=>decide ((refsB e.ea c.sets:Int)=e.ec))=(c.ddt.all fun e=>decide ((ptN e.ea (qbm c.sets):Int)=e.ec)):=by
  rw[Bool.eq_iff_iff,List.all_eq_true,List.all_eq_true]
  refine forall_congr' fun e=>forall_congr' fun he=>?_
  rw[ptN_refs hd2.2 (by omega) _ he]
 rw[e1]
 unfold cntOkB
 rw[e2]
 cases h1:sumOkB c with
 | false=>simp
 | true =>
  cases h2:(c.ddt.all fun e=>decide ((ptN e.ea (qbm c.sets):Int)=e.ec))with
  | false=>simp
  | true =>
   have hL:∀ p∈qbm c.sets,0≤p.pa∧(0<p.pa→∃ e∈c.ddt,e.ea=p.pa):=fun p hp=>by
    refine⟨hpa p hp,fun h0=>?_⟩
    have:=List.all_eq_true.1 h1 p hp
    simp only[ptSumB,Bool.or_eq_true,decide_eq_true_eq,Bool.and_eq_true]at this
    rcases this with h | h
    ·omega
    ·obtain⟨e,he,hea⟩:=ddT_some h.1
     exact⟨e,List.mem_of_getElem? he,hea⟩
   have h3:=sum_one hd2.2 (by omega) _ hL
   have h4:=sumEc_eq (l:=c.ddt) (L:=qbm c.sets) fun e he=>by simpa using List.all_eq_true.1 h2 e he
   simp[h4,h3,nnS]
theorem countsOkC (c:CO) (h:CoT c) (hd:qau c.ddt=true) (hs:∀ s∈c.sets,csOkB s=true):CV prog 222 [.agg c.row] (.bool (cntOkB c && sumOkB c)):=by
 have hdd:=ddt_ec hd
 have hdl:=hdd.1
 have hs1:=h.sets
 obtain⟨F,hF⟩:∃ F,(c.ddt.all fun e=>decide ((ptN e.ea (qbm c.sets):Int)=e.ec))=F:=⟨_,rfl⟩
 obtain⟨R,hR⟩:∃ R,((qbm c.sets).all (ptZB c.ddt) && F)=R:=⟨_,rfl⟩
 have hfin:(cntOkB c && sumOkB c)=R:=by
  rw[← hR,← hF]
  exact cntSum c h hd hs
 rw[hfin]
 refine cvx func222 [(10,[zI 0,zI 1,zI 2,zI 3,zJ 4 [1] [],zJ 5 [] [1],zI 6,zI 7,zI 8,zJ 9 [] [1],zJ 10 [7] [1],zI 11,zI 12]),(18,[zI 0,zJ 1 [11] [],zJ 2 [] [11],zJ 3 [] [11],zJ 4 [15] [11],zJ 5 [15] [11],zI 6])] ntmps222 rfl rfl rfl ?_
 simp -implicitDefEqProofs
 refine⟨by omega,?_⟩
 refine ev_lo (X:=Nat) [1,3,17,18,19] [(1,1),(15,15)] (fun i=>[(19,.int .i64 i)]) (fun i=>[(1,⟨7,[c.row]⟩),(15,⟨1,c.ddt.map (cntRow c (qbm (c.sets.take i)))⟩)]) (fun i=>c.sets.length-i)
  (fun i=>i≤c.sets.length∧((qbm (c.sets.drop i)).all (ptZB c.ddt) && F)=R) 0 (by simpa using hR) ?_ (he:=by simp[qbm,cnt_nil])
 rintro i ⟨hi,ha⟩
 cases hr:c.sets.drop i with
 | nil =>
  have:=dropn hr
  rw[hr]at ha
  have hie:i=c.sets.length:=by omega
  have ha':F=R:=by simpa [qbm]using ha
  simp -implicitDefEqProofs [hie]
  refine ev_lp (X:=Nat) [3,61,62,63] [(15,15)] (fun i=>[(63,.int .i64 i)]) (fun _=>[]) (fun i=>c.ddt.length-i) (fun i=>i≤c.ddt.length∧((c.ddt.drop i).all fun e=>decide ((ptN e.ea (qbm c.sets):Int)=e.ec))=R) 0 (by simp;rw[← ha',← hF]) ?_
  rintro j ⟨hj,hb⟩
  cases hq:c.ddt.drop j with
  | nil =>
   have:=dropn hq
   rw[hq]at hb
   have hje:j=c.ddt.length:=by omega
   simp -implicitDefEqProofs [hje]
   grind
  | cons e r =>
   obtain⟨h1,e0,e1,h3⟩:=dropc hq
   rw[hq]at hb
   have e2:=i64w ((j:Int)+1) (by omega) (by omega)
   simp -implicitDefEqProofs [h1,e0,e1,e2,cntRow]
   repeat' first
    | with_reducible intro _
    | with_reducible refine And.intro ?_ ?_
   all_goals first
    | exact nx (j+1) [(15,15)] (by grind)
    | grind
 | cons x r =>
  obtain⟨h1,e0,e1,h3⟩:=dropc hr
  have hxm:=List.mem_of_getElem? e1
  have hx8:=h.m8 x hxm
  have hrl:=qas x hx8
  have ht:List.take 31 x.row=x.row:=List.take_of_length_le (by omega)
  have hm24:=cs_map24 x hx8
  rw[hr]at ha
  have ha':(x.map.all (ptZB c.ddt) && ((qbm r).all (ptZB c.ddt) && F))=R:=by rw[← ha];simp[qbm,Bool.and_assoc]
  have e2:=i64w ((i:Int)+1) (by omega) (by omega)
  simp -implicitDefEqProofs [h1,e0,e1,hrl,ht,hm24]
  refine⟨oneA_cs x,?_⟩
  refine ev_lo (X:=Nat) [1,3,17,18,19,24,25] [(1,1),(15,15)] (fun j=>[(25,.int .i64 j)]) (fun j=>[(1,⟨7,[c.row]⟩),(15,⟨1,c.ddt.map (cntRow c (qbm (c.sets.take i)++x.map.take j))⟩)]) (fun j=>8-j)
   (fun j=>j≤8∧((x.map.drop j).all (ptZB c.ddt) && ((qbm r).all (ptZB c.ddt) && F))=R) 0 (by simpa using ha') ?_
  rintro j ⟨hj,hb⟩
  by_cases h2:j<8
  ·obtain⟨p,f1⟩:∃ p,x.map[j]?=some p:=⟨_,List.getElem?_eq_getElem (by omega)⟩
   rw[dropAt f1]at hb
   have e3:=i64w ((j:Int)+1) (by omega) (by omega)
   have h2':(j:Int)<8:=by omega
   have hfa:=flat_at f1
   obtain⟨hpo,hp0,hp1⟩:=cs_pt (hs x hxm) (List.mem_of_getElem? f1)
   simp -implicitDefEqProofs [h2',hfa,sum3 hx8]
   refine⟨by omega,fun hz=>?_,fun hz=>?_⟩
   ·have hne:∀ e∈c.ddt,e.ea≠p.pa:=fun e he=>by
     simp only[qau,Bool.and_eq_true]at hd
     have:=((ddtR_up hd.2).1 e he).1;omega
    exact nx (j+1) [(1,1),(15,15)] ⟨by omega,by simpa [ptZB,hz]using hb⟩ (h4:=by simp[e3,takeS f1,← List.append_assoc,cnt_same _ _ _ hne])
   ·refine(ddtPlaceC c.ddt p.pa hd (by omega)).call ?_
    cases hT:ddT c.ddt p.pa with
    | false =>
     have:ptZB c.ddt p=false:=by simp[ptZB,ptSumB,hT,hz];omega
     simp -implicitDefEqProofs
     grind
    | true =>
     obtain⟨e,he,hea⟩:=ddT_some hT
     obtain⟨hk,hk0⟩:=List.getElem?_eq_some_iff.1 he
     have hps:ptZB c.ddt p=(e.es == p.ps):=by simp[ptZB,ptSumB,hT,he,hz];intro;omega
     have hcl:=ptN_le p.pa (qbm (c.sets.take i)++x.map.take j)
     have hpl:=pts_len (c.sets.take i) (fun s hs=>h.m8 s (List.mem_of_mem_take hs))
     simp only[List.length_append,List.length_take]at hcl hpl
     have e4:=i64w ((ptN p.pa (qbm (c.sets.take i)++x.map.take j):Int)+1) (by omega) (by omega)
     have hcr:cntRow c (qbm (c.sets.take i)++x.map.take j) e=[.int .i64 (ptN p.pa (qbm (c.sets.take i)++x.map.take j))]:=by simp[cntRow,hea]
     simp -implicitDefEqProofs [hk,hk0,he,hcr,e4]
     exact⟨fun _=>by grind,fun _=>nx (j+1) [(1,1),(15,15)] ⟨by omega,by grind⟩ (h4:=by simp[e3,takeS f1,← List.append_assoc,← cnt_set c _ p hd he hea])⟩
  ·have:j=8:=by omega
   subst this
   simp -implicitDefEqProofs [e2]
   simp[← hx8]at hb
   refine nx (i+1) [(1,1),(15,15)] ⟨by omega,by rw[h3];grind⟩ (h4:=?_)
   have:qbm (c.sets.take (i+1))=qbm (c.sets.take i)++x.map.take 8:=by
    rw[takeS e1,List.take_of_length_le (l:=x.map) (by omega)];simp[qbm]
   simp[this]
theorem iCoreOk (c:CO) (h:CoT c):CV prog 121 [.agg c.row] (.bool (qaj c)):=by
  obtain⟨R,hR⟩:∃ R,qaj c=R:=⟨_,rfl⟩
  rw[hR]
  have hany:(c.parts.any fun p=>!qbe p)=!(c.parts.all qbe):=by rw[List.not_all_eq_any_not]
  have hany2:(c.sets.any fun p=>!csOkB p)=!(c.sets.all csOkB):=by rw[List.not_all_eq_any_not]
  refine cvx func121 [] ntmps121 rfl rfl rfl ?_
  simp -implicitDefEqProofs
  repeat' first
    | (refine(withinC' ..).call ?_;simp -implicitDefEqProofs)
    | (refine(iDdtOkC c.ddt h.ddt).call ?_;simp -implicitDefEqProofs)
    | (refine(contPt (fun p=>!qbe p) _ c.parts (by omega) (fun x _=>coreOk1 x)).call ?_;simp -implicitDefEqProofs)
    | with_reducible intro _
    | with_reducible refine And.intro ?_ ?_
  all_goals try (grind[qaj,wiB];done)
  have hd:qau c.ddt=true:=by assumption
  have hsl:=h.safe
  have hs1:=h.sets
  have hrest:qaj c=(qch 12 c.safe && (c.sets.all csOkB && (bookOkB (c.sets.map csB) && (cntOkB c && sumOkB c)))):=by grind[qaj,wiB]
  rw[hrest]at hR
  obtain⟨T,hT⟩:∃ T,(c.sets.all csOkB && (bookOkB (c.sets.map csB) && (cntOkB c && sumOkB c)))=T:=⟨_,rfl⟩
  rw[hT]at hR
  refine ev_lp (X:=Nat×Int) [1,33,34,35] [(1,1)] (fun x=>[(35,.int .i64 x.1)]) (fun _=>[]) (fun x=>c.safe.length-x.1)
     (fun x=>x.1≤c.safe.length∧(x.1=0→x.2=12)∧(∀ k,x.1=k+1→c.safe[k]?=some x.2)∧(qch x.2 (c.safe.drop x.1) && T)=R) (0,12) (by simp[hR]) ?_
  rintro⟨i,q⟩ ⟨hi,h0,hp,hdd⟩
  simp only at hi h0 hp hdd
  cases hr:c.safe.drop i with
  | nil =>
    have:=dropn hr
    rw[hr]at hdd
    have hie:i=c.safe.length:=by omega
    have hTR:T=R:=by simpa [qch]using hdd
    rw[hTR]at hT
    simp -implicitDefEqProofs [hie]
    refine(contCs (fun s=>!csOkB s) _ c.sets (by omega) h.m8 (fun x hx=>coreOk2 x (h.m8 x hx) (h.nm x hx).1 (h.nm x hx).2)).call ?_
    rw[hany2]
    cases hall:c.sets.all csOkB with
    | false =>
      simp -implicitDefEqProofs
      grind
    | true =>
      have hok:∀ s∈c.sets,csOkB s=true:=List.all_eq_true.1 hall
      simp -implicitDefEqProofs
      refine(frameC c h.sets h.m8).call ?_
      simp -implicitDefEqProofs
      refine(iBookOk _ (bkG_cs hok) (by simpa using h.sets)).call ?_
      simp -implicitDefEqProofs
      repeat' first
        | (refine(countsOkC c h hd hok).call ?_;simp -implicitDefEqProofs)
        | with_reducible intro _
        | with_reducible refine And.intro ?_ ?_
      all_goals grind
  | cons x r =>
    obtain⟨h1,e0,e1,h3⟩:=dropc hr
    rw[hr]at hdd
    have e2:=i64w ((i:Int)+1) (by omega) (by omega)
    by_cases hz:i=0
    · subst hz
      simp -implicitDefEqProofs [h1,e0,e1]
      refine(withinC' ..).call ?_
      simp -implicitDefEqProofs
      repeat' first
        | with_reducible intro _
        | with_reducible refine And.intro ?_ ?_
      all_goals first
        | exact nx (1,x) [(1,1)] (by grind[qch,wiB])
        | grind[qch,wiB]
    · obtain⟨k,hk⟩:∃ k,i=k+1:=⟨i-1,by omega⟩
      have f1:=hp k hk
      have h1':k<c.safe.length:=by omega
      have f0:c.safe[k]=q:=by grind
      have e3:(i:Int)-1=k:=by omega
      have e4:=i64w (k:Int) (by omega) (by omega)
      have hpos:0<i:=by omega
      simp -implicitDefEqProofs [h1,e0,e1]
      refine(withinC' ..).call ?_
      simp -implicitDefEqProofs [h1,e0,h1',f0,e2,e3,e4,hpos]
      repeat' first
        | with_reducible intro _
        | with_reducible refine And.intro ?_ ?_
      all_goals first
        | exact nx (i+1,x) [(1,1)] (by grind[qch,wiB])
        | grind[qch,wiB]
theorem ix_ev1 {α:Type} {row:α→List AV} {tS tE sz g:Nat} {o:Ob} (hT:RowT row tS tE sz) (p:α→Bool) (l:List α) (hl:l.length≤9000000) (hs:∀ x∈l,(row x).length=sz) (ho:clR o.els=true)
  (hg:∀ x∈l,CW prog g [.agg (row x),.ptr 1000 0 0] o (.bool (p x))) :
  ev prog ⟨19,[1000]⟩ (ixA tS tE) (retQ prog [.tmp 4] (fun r L'=>r=.int .i64 (ixR p 0 l)∧L'=[(1000,o)])) ⟨argT [.lst sz (l.map row),.fn g [.ptr 1000 0 0]],hpOf [(1000,o)],Us.of [1000]⟩:=by
 obtain⟨fs,b,z,hE⟩:=hT.E
 have hS:=hT.S
 have hro:∀ ρ,renOb ρ o=o:=fun ρ=>renOb_cl ho
 obtain⟨R,hR⟩:∃ R,ixR p 0 l=R:=⟨_,rfl⟩
 rw[hR]
 simp -implicitDefEqProofs [ixA,hS,hE]
 refine ev_lp (X:=Nat) [0,1,7,8] [(1000,1000)] (fun i=>[(8,.int .i64 i)]) (fun _=>[]) (fun i=>l.length-i) (fun i=>i≤l.length∧ixR p i (l.drop i)=R) 0 (by simp[hR]) ?_ (he:=by simp[hro])
 rintro i ⟨hi,hd⟩
 cases hr:l.drop i with
 | nil =>
  have:=dropn hr
  rw[hr]at hd
  have hie:i=l.length:=by omega
  simp -implicitDefEqProofs [hie,hro]
  grind[ixR]
 | cons x r =>
  obtain⟨h1,e0,e1,h3⟩:=dropc hr
  rw[hr]at hd
  have hx:=List.mem_of_getElem? e1
  have e2:=i64w ((i:Int)+1) (by omega) (by omega)
  have hrl:=hs x hx
  have ht:(row x).take sz=row x:=List.take_of_length_le (by omega)
  simp -implicitDefEqProofs [hS,hE,h1,e0,e1,hrl,ht,hro]
  refine(hg x hx).call 1000 (by simp) (by simp[mtL_cl _ (hT.cl x)]) ?_
  simp -implicitDefEqProofs [e2]
  exact⟨fun hp=>by grind[ixR],fun hp=>nx (i+1) [(1000,1000)] (by grind[ixR]) (h4:=by simp[hro])⟩
theorem core_book {c:CO} (h:qaj c=true):bookOkB (c.sets.map csB)=true:=by
 simp only[qaj,Bool.and_eq_true]at h
 exact h.1.1.2
theorem core_srt {c:CO} (h:qaj c=true):Srt (c.sets.map csB):=ibookOkB_srt (by rw[ok_eq];exact core_book h)
theorem core_ddt {c:CO} (h:qaj c=true):qau c.ddt=true:=by
 simp only[qaj,Bool.and_eq_true]at h
 exact h.1.1.1.1.1.1.1.1.1.2
def mdig (k:Nat) (out:List UInt8):List UInt8:=if h:k=0 then out else mdig (k / 10) (UInt8.ofNat (48+k % 10)::out)
termination_by k
theorem mdig_pos {k:Nat} (h:0<k) (out:List UInt8):mdig k out=mdig (k / 10) (UInt8.ofNat (48+k % 10)::out):=by
 rw[mdig,dif_neg (by omega)]
theorem mdig_zero (out:List UInt8):mdig 0 out=out:=by
 rw[mdig,dif_pos rfl]
def mtB (k:Nat):List UInt8:=if k=0 then [109,48] else 109::mdig k []
theorem markTextC (k:Nat) (hk:k<1000000000):CV prog 186 [.int .i64 k] (.str (mtB k)):=by
 obtain⟨R,hR⟩:∃ R,mtB k=R:=⟨_,rfl⟩
 rw[hR]
 refine cvx func186 [] ntmps186 rfl rfl rfl ?_
 by_cases h0:k=0
 ·subst h0
  simp[mtB]at hR
  simp -implicitDefEqProofs [← hR]
 ·rw[mtB,if_neg h0]at hR
  simp -implicitDefEqProofs [h0]
  refine ev_lp (X:=Nat×List UInt8) [0,3] [] (fun x=>[(0,.int .i64 x.1),(3,.str x.2)]) (fun _=>[]) (fun x=>x.1) (fun x=>x.2.length+x.1≤k∧109::mdig x.1 x.2=R) (k,[]) (by simp[hR]) ?_
  rintro⟨j,out⟩ ⟨hj,hm⟩
  simp only at hj hm
  by_cases hz:j=0
  ·subst hz
   rw[mdig_zero]at hm
   simp -implicitDefEqProofs [hm]
   omega
  ·rw[mdig_pos (by omega)]at hm
   have hj':0<j:=by omega
   have e1:=i64w (48+(j:Int) % 10) (by omega) (by omega)
   have e3:=i64w ((j:Int) / 10) (by omega) (by omega)
   have e2:byteOf [.int .u8 (IntKind.u8.wrap (48+(j:Int) % 10))]=48+UInt8.ofNat (j % 10):=by
    have:IntKind.u8.wrap (48+(j:Int) % 10)=((48+j % 10:Nat):Int):=by
     show(48+(j:Int) % 10) % 256=_
     omega
    rw[this]
    show UInt8.ofNat (((48+j % 10:Nat):Int)).toNat=_
    rw[Int.toNat_natCast,UInt8.ofNat_add]
    rfl
   have t1:(j:Int).tmod 10=(j:Int) % 10:=Int.tmod_eq_emod_of_nonneg (by omega)
   have t2:(j:Int).tdiv 10=(j:Int) / 10:=Int.tdiv_eq_ediv_of_nonneg (by omega)
   simp -implicitDefEqProofs [hj',hz,t1,t2,e1,e3]
   refine⟨isU8_wrap _,by omega,?_⟩
   refine nx (j / 10,UInt8.ofNat (48+j % 10)::out) [] ?_ ?_ (h4:=?_)
   ·refine⟨?_,hm⟩
    simp only[List.length_cons]
    omega
   ·simp only
    omega
   ·simp[t1,t2,e1,e2,e3]
theorem markTextI (z:Int) (k:Nat) (hz:z=k) (hk:k<1000000000):CV prog 186 [.int .i64 z] (.str (mtB k)):=hz ▸ markTextC k hk
attribute [simp] clL_strs
def szSs:List (List UInt8)→Int→Int
 | [],l=>l
 | t::r,l=>if l-t.length<0 then -1 else szSs r (l-t.length)
theorem szSs_le:∀ (ts:List (List UInt8)) (l:Int),0≤l→szSs ts l≤l∧-1≤szSs ts l∧(0≤szSs ts l→∀ t∈ts,(t.length:Int)≤l)
 | [],l,h=>by simp[szSs];omega
 | t::r,l,h=>by
  unfold szSs
  split
  ·refine⟨by omega,by omega,fun h'=>by omega⟩
  ·obtain⟨h1,h2,h3⟩:=szSs_le r (l-t.length) (by omega)
   refine⟨by omega,h2,fun h' t' ht=>?_⟩
   rcases List.mem_cons.1 ht with rfl | ht
   ·omega
   ·have:=h3 h' t' ht
    omega
def BkS (bs:List BS):Prop:=bs.length≤1048576∧∀ b∈bs,b.bl.length=8∧b.name.length≤1048576∧b.frm.length≤1048576
def opS (o:BO):Prop:=o.a.length≤1048576∧o.b.length≤1048576
theorem toOpC (o:BO):CV prog 10 [.agg (BO.row o)] (.agg (BO.row o)):=by
 refine cvx func10 [] ntmps10 rfl rfl rfl ?_ (hca:=by simp[BO.row]) (hcv:=by simp[BO.row])
 simp -implicitDefEqProofs [BO.row]
theorem phs_tup1 {id sz:Nat} {z:AV}:phs id sz (.tup [.agg [.nils],z]) (.tup [.agg [.sl id 0 0],z]):=phs_tup2 phs_agg1 (phs_refl _ _ _)
theorem noL_bs (b:BS):noL b.row=true:=by simp[BS.row,noL_strs]
theorem idoO (bs:List BS) (o:BO) (h:BkS bs) (ho:opS o):ACall prog 52 [bk bs,.agg (BO.row o)] [] (fun r L'=>r=.tup [.agg [.sl 903 0 (resB bs o).1.length],.int .i64 (resB bs o).2]∧L'=[(903,bkOb (resB bs o).1)]):=by
 have hc:=ok_eq bs ▸ ibookDoC bs o (by have:=h.1;omega) (fun b hb=>(h.2 b hb).1) (fun b hb=>by have:=(h.2 b hb).2.1;omega) ⟨by have:=ho.1;omega,by have:=ho.2;omega⟩
 refine ACall.ph 903 11 hc (by simp) ?_
 intro r L' hr
 unfold bkN at hr
 unfold resB
 split at hr
 ·rename_i hk
  obtain⟨id,hid,rfl,rfl⟩:=hr
  simp only[List.mem_singleton]at hid
  subst hid
  exact .inl (by rw[if_pos hk];exact⟨rfl,rfl⟩)
 ·rename_i hk
  obtain⟨rfl,rfl⟩:=hr
  exact .inr ⟨by simp,by simp,_,phs_tup1,by rw[if_neg hk];exact⟨rfl,rfl⟩⟩
structure BK where
 sets:List BS
def BK.row (b:BK):List AV:=[.lst 11 (b.sets.map BS.row)]
def BoW (o:BO):Prop:=o.a.length≤maxLen∧o.b.length≤maxLen∧o.text.length≤maxLen
theorem str_shp {n:Nat} {avs:List AV} (h:Shp prog (n+1) 9 avs):∃ s:List UInt8,s.length≤maxLen∧avs=[.str s]:=shp_string underlying9 h
theorem bo_shp {avs:List AV} (h:Shp prog 8 36 avs):∃ o:BO,BoW o∧avs=BO.row o:=by
 obtain⟨a1,b1,rfl,h1,a2,b2,rfl,h2,a3,b3,rfl,h3,a4,b4,rfl,h4,a5,b5,rfl,h5,rfl⟩:=shp_struct underlying36 h
 obtain⟨z1,g1,rfl⟩:=shp_i64 h1
 obtain⟨s2,m2,rfl⟩:=shp_string underlying9 h2
 obtain⟨s3,m3,rfl⟩:=shp_string underlying9 h3
 obtain⟨z4,g4,rfl⟩:=shp_i64 h4
 obtain⟨s5,m5,rfl⟩:=shp_string underlying9 h5
 exact⟨⟨z1,s2,s3,z4,s5⟩,⟨m2,m3,m5⟩,rfl⟩
def sumB:List UInt8→Nat→Nat
 | [],n=>n
 | x::r,n=>sumB r ((n * 257+x.toNat+1) % 65521)
theorem ssumC (s:List UInt8) (hs:s.length≤maxLen):CV prog 266 [.str s] (.int .i64 (sumB s (1+s.length % 997):Nat)):=by
 obtain⟨R,hR⟩:∃ R,sumB s (1+s.length % 997)=R:=⟨_,rfl⟩
 rw[hR]
 have hml:maxLen=9223372036854775807:=rfl
 have t1:(s.length:Int).tmod 997=(s.length:Int) % 997:=Int.tmod_eq_emod_of_nonneg (by omega)
 have w1:=i64w (1+(s.length:Int) % 997) (by omega) (by omega)
 refine cvx func266 [] ntmps266 rfl rfl rfl ?_
 simp -implicitDefEqProofs [t1,w1]
 refine ev_lp (X:=Nat×Nat) [0,3,4] [] (fun x=>[(4,.int .i64 x.1),(3,.int .i64 x.2)]) (fun _=>[]) (fun x=>s.length-x.1) (fun x=>x.1≤s.length∧x.2<65521∧sumB (s.drop x.1) x.2=R) (0,1+s.length % 997) (by simp[hR];omega) ?_
 rintro⟨i,n⟩ ⟨hi,hn,hd⟩
 simp only at hi hn hd
 cases hr:s.drop i with
 | nil =>
  have:=dropn hr
  rw[hr]at hd
  have hie:i=s.length:=by omega
  simp[sumB]at hd
  simp -implicitDefEqProofs [hie,hd]
 | cons x r =>
  obtain⟨h1,e0,e1,h3⟩:=dropc hr
  rw[hr,sumB]at hd
  have e2:=i64w ((i:Int)+1) (by omega) (by omega)
  have hx:=x.toNat_lt
  have w2:=i64w ((n:Int) * 257) (by omega) (by omega)
  have w3:=i64w ((n:Int) * 257+x.toNat) (by omega) (by omega)
  have w4:=i64w ((n:Int) * 257+x.toNat+1) (by omega) (by omega)
  have w6:=i64w (x.toNat:Int) (by omega) (by omega)
  have t2:((n:Int) * 257+x.toNat+1).tmod 65521=((n:Int) * 257+x.toNat+1) % 65521:=Int.tmod_eq_emod_of_nonneg (by omega)
  have w5:=i64w (((n:Int) * 257+x.toNat+1) % 65521) (by omega) (by omega)
  simp -implicitDefEqProofs [h1,e0,e1,e2,w2,w3,w4,w5,w6,t2]
  exact nx (i+1,(n * 257+x.toNat+1) % 65521) [] (by simp only[h3];exact⟨by omega,by omega,hd⟩) (by simp only;omega) (h4:=by simp[e2,w2,w3,w4,w5,w6,t2])
theorem isumC (s:List UInt8) (hs:s.length≤maxLen):CV prog 272 [.str s] (.int .i64 (sumB s (1+s.length % 997):Nat)):=by
 obtain⟨R,hR⟩:∃ R,sumB s (1+s.length % 997)=R:=⟨_,rfl⟩
 rw[hR]
 have hml:maxLen=9223372036854775807:=rfl
 have t1:(s.length:Int).tmod 997=(s.length:Int) % 997:=Int.tmod_eq_emod_of_nonneg (by omega)
 have w1:=i64w (1+(s.length:Int) % 997) (by omega) (by omega)
 refine cvx func272 [] ntmps272 rfl rfl rfl ?_
 simp -implicitDefEqProofs [t1,w1]
 refine ev_lp (X:=Nat×Nat) [0,3,10,11] [] (fun x=>[(11,.int .i64 x.1),(3,.int .i64 x.2)]) (fun _=>[]) (fun x=>s.length-x.1) (fun x=>x.1≤s.length∧x.2<65521∧sumB (s.drop x.1) x.2=R) (0,1+s.length % 997) (by simp[hR];omega) ?_
 rintro⟨i,n⟩ ⟨hi,hn,hd⟩
 simp only at hi hn hd
 cases hr:s.drop i with
 | nil =>
  have:=dropn hr
  rw[hr]at hd
  have hie:i=s.length:=by omega
  simp[sumB]at hd
  simp -implicitDefEqProofs [hie,hd]
 | cons x r =>
  obtain⟨h1,e0,e1,h3⟩:=dropc hr
  rw[hr,sumB]at hd
  have e2:=i64w ((i:Int)+1) (by omega) (by omega)
  have hx:=x.toNat_lt
  have w2:=i64w (257 * (n:Int)) (by omega) (by omega)
  have w3:=i64w (257 * (n:Int)+x.toNat) (by omega) (by omega)
  have w4:=i64w (257 * (n:Int)+x.toNat+1) (by omega) (by omega)
  have w6:=i64w (x.toNat:Int) (by omega) (by omega)
  have t2:(257 * (n:Int)+x.toNat+1).tmod 65521=(257 * (n:Int)+x.toNat+1) % 65521:=Int.tmod_eq_emod_of_nonneg (by omega)
  have w5:=i64w ((257 * (n:Int)+x.toNat+1) % 65521) (by omega) (by omega)
  simp -implicitDefEqProofs [h1,e0,e1,e2,w2,w3,w4,w5,w6,t2]
  rw[Nat.mul_comm]at hd
  exact nx (i+1,(257 * n+x.toNat+1) % 65521) [] (by simp only[h3];exact⟨by omega,by omega,hd⟩) (by simp only;omega) (h4:=by simp[e2,w2,w3,w4,w5,w6,t2])
def ddig (k:Nat) (out:List UInt8):List UInt8:=if h:k≤9 then UInt8.ofNat (48+k)::out else ddig (k / 10) (UInt8.ofNat (48+k % 10)::out)
termination_by k
theorem sdecC (k:Nat) (hk:k<1000000000):CV prog 268 [.int .i64 k] (.str (ddig k [])):=by
 obtain⟨R,hR⟩:∃ R,ddig k []=R:=⟨_,rfl⟩
 rw[hR]
 refine cvx func268 [] ntmps268 rfl rfl rfl ?_
 have h0:¬ (k:Int) < -9223372036854775807:=by omega
 have h1:¬ (k:Int)<0:=by omega
 simp -implicitDefEqProofs [h0,h1]
 refine ev_lp (X:=Nat×List UInt8) [0,3] [] (fun x=>[(0,.int .i64 x.1),(3,.str x.2)]) (fun _=>[]) (fun x=>x.1) (fun x=>x.2.length+x.1≤k∧ddig x.1 x.2=R) (k,[]) (by simp[hR]) ?_
 rintro⟨j,out⟩ ⟨hj,hm⟩
 simp only at hj hm
 rw[ddig]at hm
 by_cases hz:j≤9
 ·rw[dif_pos hz]at hm
  have h2:¬ (9:Int)<j:=by omega
  have e1:=i64w (48+(j:Int)) (by omega) (by omega)
  have e2:byteOf [.int .u8 (IntKind.u8.wrap (48+(j:Int)))]=UInt8.ofNat (48+j):=by
   have:IntKind.u8.wrap (48+(j:Int))=((48+j:Nat):Int):=by
    show(48+(j:Int)) % 256=_
    omega
   rw[this]
   rfl
  simp -implicitDefEqProofs [h2,e1]
  refine⟨isU8_wrap _,by omega,?_⟩
  rw[← hm,e2]
 ·rw[dif_neg hz]at hm
  have h2:(9:Int)<j:=by omega
  have e1:=i64w (48+(j:Int) % 10) (by omega) (by omega)
  have e3:=i64w ((j:Int) / 10) (by omega) (by omega)
  have e2:byteOf [.int .u8 (IntKind.u8.wrap (48+(j:Int) % 10))]=UInt8.ofNat (48+j % 10):=by
   have:IntKind.u8.wrap (48+(j:Int) % 10)=((48+j % 10:Nat):Int):=by
    show(48+(j:Int) % 10) % 256=_
    omega
   rw[this]
   rfl
  have t1:(j:Int).tmod 10=(j:Int) % 10:=Int.tmod_eq_emod_of_nonneg (by omega)
  have t2:(j:Int).tdiv 10=(j:Int) / 10:=Int.tdiv_eq_ediv_of_nonneg (by omega)
  simp -implicitDefEqProofs [h2,t1,t2,e1,e3]
  refine⟨isU8_wrap _,by omega,?_⟩
  refine nx (j / 10,UInt8.ofNat (48+j % 10)::out) [] ?_ ?_ (h4:=?_)
  ·refine⟨?_,hm⟩
   simp only[List.length_cons]
   omega
  ·simp only
   omega
  ·simp[t1,t2,e1,e2,e3]
theorem ddig_len (k:Nat) (out:List UInt8):(ddig k out).length≤out.length+k+1:=by
 induction k using Nat.strongRecOn generalizing out with
 | _ k ih =>
  rw[ddig]
  split
  ·simp only[List.length_cons]
   omega
  ·have:=ih (k / 10) (by omega) (UInt8.ofNat (48+k % 10)::out)
   simp only[List.length_cons]at this
   omega
def sealB (s:List UInt8):List UInt8:=if 400<s.length then [] else ddig (sumB s (1+s.length % 997)) []++58::s
theorem sumB_lt:∀ (s:List UInt8) (n:Nat),n<65521→sumB s n<65521
 | [],n,h=>h
 | x::r,n,h=>sumB_lt r _ (Nat.mod_lt _ (by omega))
theorem ssealC (s:List UInt8) (hs:s.length≤maxLen):CV prog 269 [.str s] (.str (sealB s)):=by
 have hlt:=sumB_lt s (1+s.length % 997) (by omega)
 refine cvx func269 [] ntmps269 rfl rfl rfl ?_
 unfold sealB
 by_cases h:400<s.length
 ·have h':(400:Int)<s.length:=by omega
  simp -implicitDefEqProofs [h,h']
 ·have h':¬ (400:Int)<s.length:=by omega
  rw[if_neg h]
  simp -implicitDefEqProofs [h']
  refine(ssumC s hs).call ?_
  simp -implicitDefEqProofs
  refine(sdecC _ (by omega)).call ?_
  simp -implicitDefEqProofs
  have hdl:=ddig_len (sumB s (1+s.length % 997)) []
  simp only[List.length_nil]at hdl
  omega
def hexL:List UInt8:=[48,49,50,51,52,53,54,55,56,57,97,98,99,100,101,102]
theorem byteOf_u8:byteOf ∘ u8row=id:=by
 funext c
 show UInt8.ofNat ((c.toNat:Int).toNat)=c
 simp
theorem renL_u8c (ρ:Nat→Option Plc):renL ρ ∘ u8row=u8row:=by
 funext c
 simp[u8row]
end Go.Av.F
end
