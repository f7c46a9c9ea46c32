/- Lemmas for the proof, no statement of the seat; no conditions. -/
import Derived.Test.YtcbjbdnmhlhijaaGreatDoorLayAP
set_option linter.unusedSimpArgs false
set_option linter.unusedVariables false
set_option linter.unnecessarySimpa false
set_option maxRecDepth 100000
section
namespace Go.Av.F
open Go Go.Av Go.Proofs Go.Proofs.Tryz
structure CoT (c:CO):Prop where
 sets:c.sets.length≤1048576
 ddt:c.ddt.length≤1048576
 parts:c.parts.length≤1048576
 safe:c.safe.length≤1048576
 m8:∀ s∈c.sets,s.map.length=8
 nm:∀ s∈c.sets,s.name.length≤1048576∧s.frm.length≤1048576
def qax (c:CO):Bool:=decide (0≤c.txg) && decide (c.txg≤1000000) && qbc c.ddt && decide (c.parts.length≤8) && qcd 12 c.safe && decide (0≤c.logn) && decide (c.logn≤8) &&
 c.sets.all csOkB && c.parts.all qam && qbb (c.sets.map csB) && cntOkB c && sumOkB c
theorem csOk_nm {s:CS} (h:csOkB s=true):s.name.length≤6∧s.frm.length≤6:=by
 simp only[csOkB,Bool.and_eq_true,Bool.or_eq_true,nameB,decide_eq_true_eq,List.isEmpty_iff]at h
 refine⟨h.1.1.1.1.2,?_⟩
 rcases h.1.1.1.2 with h | h
 ·simp[h]
 ·exact h.2
theorem bkG_cs {l:List CS} (h:∀ s∈l,csOkB s=true):BkG (l.map csB):=by
 intro b hb
 obtain⟨s,hs,rfl⟩:=List.mem_map.1 hb
 have:=csOk_nm (h s hs)
 simp[csB];omega
theorem sBookOk (bs:List BS) (hb:BkG bs) (hl:bs.length≤1048576):CV prog 113 [bk bs] (.bool (qbb bs)):=cv_of (specOkC bs hb (by omega)) (hca:=by simp[bk])
theorem iBookOk (bs:List BS) (hb:BkG bs) (hl:bs.length≤1048576):CV prog 126 [bk bs] (.bool (qbb bs)):=cv_of (implOkC bs hb (by omega)) (hca:=by simp[bk])
theorem sCoreOk (c:CO) (h:CoT c):CV prog 69 [.agg c.row] (.bool (qax c)):=by
 obtain⟨R,hR⟩:∃ R,qax c=R:=⟨_,rfl⟩
 rw[hR]
 refine cvx func69 [] ntmps69 rfl rfl rfl ?_
 simp -implicitDefEqProofs
 repeat' first
  | (refine(sDdtOkC c.ddt h.ddt).call ?_;simp -implicitDefEqProofs)
  | (refine(placesC c.safe h.safe).call ?_;simp -implicitDefEqProofs)
  | with_reducible intro _
  | with_reducible refine And.intro ?_ ?_
 all_goals try (grind[qax];done)
 have hrest:qax c=(c.sets.all csOkB && (c.parts.all qam && (qbb (c.sets.map csB) && cntOkB c && sumOkB c))):=by grind[qax]
 rw[hrest]at hR
 have hd:qbc c.ddt=true:=by assumption
 have hpl:(c.parts.length:Int)≤8:=by assumption
 have hs1:=h.sets
 refine ev_lp (X:=Nat) [1,3] [(1,1)] (fun i=>[(3,.int .i64 i)]) (fun _=>[]) (fun i=>c.sets.length-i) (fun i=>i≤c.sets.length∧(∀ s∈c.sets.take i,csOkB s=true)∧((c.sets.drop i).all csOkB && (c.parts.all qam && (qbb (c.sets.map csB) && cntOkB c && sumOkB c)))=R) 0 (by simpa using hR) ?_
 rintro i ⟨hi,hok,ha⟩
 cases hr:c.sets.drop i with
 | nil =>
  have:=dropn hr
  rw[hr]at ha
  have hie:i=c.sets.length:=by omega
  have hok':∀ s∈c.sets,csOkB s=true:=by rw[List.take_of_length_le (by omega)]at hok;exact hok
  simp -implicitDefEqProofs [hie]
  refine ev_lp (X:=Nat) [1,4] [(1,1)] (fun i=>[(4,.int .i64 i)]) (fun _=>[]) (fun i=>c.parts.length-i) (fun i=>i≤c.parts.length∧((c.parts.drop i).all qam && (qbb (c.sets.map csB) && cntOkB c && sumOkB c))=R) 0 (by simpa using ha) ?_
  rintro j ⟨hj,hb⟩
  cases hq:c.parts.drop j with
  | nil =>
   have:=dropn hq
   rw[hq]at hb
   have hje:j=c.parts.length:=by omega
   simp -implicitDefEqProofs [hje]
   refine(sNamesC c h.sets h.m8).call ?_
   simp -implicitDefEqProofs
   refine(sBookOk _ (bkG_cs hok') (by simpa using h.sets)).call ?_
   simp -implicitDefEqProofs
   repeat' first
    | (refine(countsC c h.sets h.m8 hd).call ?_;simp -implicitDefEqProofs)
    | (refine(sumsC c h.sets (ddt_ec hd).1 h.m8).call ?_;simp -implicitDefEqProofs)
    | with_reducible intro _
    | with_reducible refine And.intro ?_ ?_
   all_goals grind
  | cons x r =>
   obtain⟨h1,e0,e1,h3⟩:=dropc hq
   rw[hq]at hb
   have e2:=i64w ((j:Int)+1) (by omega) (by omega)
   simp -implicitDefEqProofs [h1,e0,e1]
   refine(sPtrOkC x).call ?_
   simp -implicitDefEqProofs [h1,e0,e1,e2]
   repeat' first
    | with_reducible intro _
    | with_reducible refine And.intro ?_ ?_
   all_goals first
    | exact nx (j+1) [(1,1)] (by grind[qam])
    | grind[qam]
 | cons x r =>
  obtain⟨h1,e0,e1,h3⟩:=dropc hr
  have hxm:=List.mem_of_getElem? e1
  have hrl:=qbf x (h.m8 x hxm)
  have ht:List.take 31 x.row=x.row:=List.take_of_length_le (by omega)
  rw[hr]at ha
  have e2:=i64w ((i:Int)+1) (by omega) (by omega)
  simp -implicitDefEqProofs [h1,e0,e1,hrl,ht]
  refine(sSetC x (h.m8 x hxm) (h.nm x hxm).1 (h.nm x hxm).2).call ?_
  simp -implicitDefEqProofs [e2]
  repeat' first
   | with_reducible intro _
   | with_reducible refine And.intro ?_ ?_
  all_goals first
   | exact nx (i+1) [(1,1)] (by rw[takeS e1];grind)
   | grind
theorem coreOk1 (p:PT):CV prog 218 [.agg p.row] (.bool (!qam p)):=by
 refine cvx func218 [] ntmps218 rfl rfl rfl ?_
 simp -implicitDefEqProofs
 refine(realC p).call ?_
 simp -implicitDefEqProofs
theorem coreOk2 (s:CS) (h8:s.map.length=8) (hn:s.name.length≤1048576) (hf:s.frm.length≤1048576):CV prog 220 [.agg s.row] (.bool (!csOkB s)):=by
 have hl:=qbf s h8
 have ht:List.take 31 s.row=s.row:=List.take_of_length_le (by omega)
 refine cvx func220 [] ntmps220 rfl rfl rfl ?_ (hca:=by simp[cs_cl])
 simp -implicitDefEqProofs [hl,ht]
 refine(iSetC s h8 hn hf).call ?_
 simp -implicitDefEqProofs
def ptZB (l:List DE) (p:PT):Bool:=decide (p.pa=0) || ptSumB l p
def cntRow (c:CO) (L:List PT) (e:DE):List AV:=[.int .i64 (ptN e.ea L)]
theorem ptN_app (a:Int) (L:List PT) (p:PT):ptN a (L++[p])=ptN a L+if p.pa=a then 1 else 0:=by
 simp[ptN,List.countP_append,List.countP_cons]
theorem cnt_same (c:CO) (L:List PT) (p:PT) (h:∀ e∈c.ddt,e.ea≠p.pa):c.ddt.map (cntRow c (L++[p]))=c.ddt.map (cntRow c L):=by
 refine List.map_congr_left fun e he=>?_
 have:=h e he
 simp[cntRow,ptN_app,Ne.symm this]
theorem cnt_set (c:CO) (L:List PT) (p:PT) (hd:qbc c.ddt=true) {k:Nat} {e:DE} (hk:c.ddt[k]?=some e) (he:e.ea=p.pa) :
  (c.ddt.map (cntRow c L)).set k [.int .i64 ((ptN p.pa L:Int)+1)]=c.ddt.map (cntRow c (L++[p])):=by
 simp only[qbc,Bool.and_eq_true]at hd
 have hup:=(ddtR_up hd.2).2
 apply List.ext_getElem?
 intro i
 rw[List.getElem?_set,List.getElem?_map,List.getElem?_map]
 by_cases hi:k=i
 ·subst hi
  obtain⟨hl,hk0⟩:=List.getElem?_eq_some_iff.1 hk
  simp[hl,hk0,cntRow,ptN_app,he]
 ·rw[if_neg hi]
  cases hx:c.ddt[i]? with
  | none=>rfl
  | some x =>
   have:x.ea≠p.pa:=by
    rw[← he]
    rcases Nat.lt_or_gt_of_ne hi with h | h
    ·have:=hup k i e x h hk hx;omega
    ·have:=hup i k x e h hx hk;omega
   simp[cntRow,ptN_app,Ne.symm this]
theorem cs_map24 (s:CS) (h8:s.map.length=8):List.take 24 (List.drop 3 s.row)=s.map.flatMap PT.row:=by
 obtain⟨n,k,f,m,h,d⟩:=s
 simp only at h8
 match m,h8 with
 | [p0,p1,p2,p3,p4,p5,p6,p7],_=>rfl
theorem flat_at {l:List PT} {i:Nat} {p:PT} (h:l[i]?=some p):List.take 3 (List.drop (i * 3) (l.flatMap PT.row))=p.row:=by
 induction l generalizing i with
 | nil=>simp at h
 | cons a l ih =>
  cases i with
  | zero=>simp at h;subst h;simp
  | succ i =>
   rw[← ih (i:=i) (by simpa using h)]
   simp[show(i+1) * 3=i * 3+1+1+1 by omega]
@[simp] theorem renL_cnt (ρ:Nat→Option Plc) (c:CO) (L:List PT):renL ρ ∘ cntRow c L=cntRow c L:=by
 funext e;simp[cntRow]
theorem cnt_nil (c:CO):c.ddt.map (cntRow c [])=List.replicate c.ddt.length [.int .i64 0]:=by
 have:cntRow c []=fun _=>[.int .i64 0]:=by funext e;simp[cntRow,ptN]
 rw[this,List.map_const']
@[simp] theorem renL_pts (ρ:Nat→Option Plc) (l:List PT):renL ρ (l.flatMap PT.row)=l.flatMap PT.row:=renL_closed.renL_closedL ρ _ (clL_pts l)
theorem sum3 {l:List PT} (h:l.length=8):(List.map (fun _=>3) l).sum=24:=by
 rw[List.map_const',h];rfl
theorem cs_pt {s:CS} (h:csOkB s=true) {p:PT} (hp:p∈s.map):ptOkB p=true∧0≤p.pa∧p.pa<120:=by
 simp only[csOkB,Bool.and_eq_true,List.all_eq_true]at h
 have:=h.2 p hp
 refine⟨this,?_⟩
 unfold ptOkB at this
 split at this
 ·omega
 ·simp at this;omega
theorem sum_one {l:List DE} {q:Int} (h:ddtR q l=true) (hq:0≤q) (L:List PT) (hL:∀ p∈L,0≤p.pa∧(0<p.pa→∃ e∈l,e.ea=p.pa)):((l.map fun e=>ptN e.ea L).sum)=nnN L:=by
 induction L with
 | nil =>
  clear h hL
  induction l with
  | nil=>rfl
  | cons e l ih=>simpa [ptN,nnN]using ih
 | cons p L ih =>
  have ih':=ih fun p hp=>hL p (List.mem_cons_of_mem _ hp)
  obtain⟨hp0,hpe⟩:=hL p (by simp)
  have key:∀ (l:List DE) (q:Int),0≤q→ddtR q l=true→(l.map fun e=>(if p.pa=e.ea then 1 else 0)).sum=if ∃ e∈l,e.ea=p.pa then 1 else 0:=by
   intro l
   induction l with
   | nil=>intro q _ _;simp
   | cons e l ihl =>
    intro q hq h
    have hup:=ddtR_up h
    simp only[ddtR,Bool.and_eq_true,decide_eq_true_eq]at h
    have h2:=ihl e.ea (by omega) h.2
    simp only[List.map_cons,List.sum_cons,h2]
    by_cases he:p.pa=e.ea
    ·have:¬ ∃ x∈l,x.ea=p.pa:=by
      rintro⟨x,hx,hxe⟩
      have:=((ddtR_up h.2).1 x hx).1;omega
     simp[he]at this ⊢
     exact this
    ·have:e.ea≠p.pa:=fun h=>he h.symm
     simp[he,this]
  have hk:=key l q hq h
  have hadd:∀ (l:List DE),(l.map fun e=>ptN e.ea (p::L)).sum=(l.map fun e=>(if p.pa=e.ea then 1 else 0)).sum+(l.map fun e=>ptN e.ea L).sum:=by
   intro l
   induction l with
   | nil=>rfl
   | cons e l ih=>simp only[List.map_cons,List.sum_cons];rw[ih,ptN_cons];omega
  rw[hadd,hk,ih',nnN_cons]
  congr 1
  by_cases h0:0<p.pa
  ·rw[if_pos (hpe h0),if_pos h0]
  ·rw[if_neg,if_neg h0]
   rintro⟨e,he,hee⟩
   have:=((ddtR_up h).1 e he).1;omega
theorem sumEc_eq {l:List DE} {L:List PT} (h:∀ e∈l,(ptN e.ea L:Int)=e.ec):sumEc l=((l.map fun e=>ptN e.ea L).sum:Nat):=by
 induction l with
 | nil=>rfl
 | cons e l ih =>
  have h1:=h e (by simp)
  have h2:=ih fun e he=>h e (List.mem_cons_of_mem _ he)
  simp only[sumEc,List.map_cons,List.sum_cons,h2];omega
theorem ptN_refs {l:List DE} {q:Int} (h:ddtR q l=true) (hq:0≤q) (L:List CS) {e:DE} (he:e∈l):refsB e.ea L=ptN e.ea (qaz L):=by
 have:=((ddtR_up h).1 e he).1
 unfold refsB;rw[if_pos (by omega)]
theorem cntSum (c:CO) (h:CoT c) (hd:qbc c.ddt=true) (hs:∀ s∈c.sets,csOkB s=true) :
  (cntOkB c && sumOkB c)=((qaz c.sets).all (ptZB c.ddt) && c.ddt.all fun e=>decide ((ptN e.ea (qaz c.sets):Int)=e.ec)):=by
 have hd2:=hd
 simp only[qbc,Bool.and_eq_true,decide_eq_true_eq]at hd2
 have hpa:∀ p∈qaz c.sets,0≤p.pa:=fun p hp=>by
  obtain⟨s,hs1,hs2⟩:=List.mem_flatMap.1 hp
  exact(cs_pt (hs s hs1) hs2).2.1
 have e1:(qaz c.sets).all (ptZB c.ddt)=sumOkB c:=by
  unfold sumOkB
  rw[Bool.eq_iff_iff,List.all_eq_true,List.all_eq_true]
  refine forall_congr' fun p=>forall_congr' fun hp=>?_
  have:=hpa p hp
  simp only[ptZB,Bool.or_eq_true,decide_eq_true_eq]
  constructor
  ·rintro(h | h)
   ·simp[ptSumB,h]
   ·exact h
  ·exact .inr
 have e2:(c.ddt.all fun e=>decide ((refsB e.ea c.sets:Int)=e.ec))=(c.ddt.all fun e=>decide ((ptN e.ea (qaz c.sets):Int)=e.ec)):=by
  rw[Bool.eq_iff_iff,List.all_eq_true,List.all_eq_true]
  refine forall_congr' fun e=>forall_congr' fun he=>?_
  rw[ptN_refs hd2.2 (by omega) _ he]
 rw[e1]
 unfold cntOkB
 rw[e2]
 cases h1:sumOkB c with
 | false=>simp
 | true =>
  cases h2:(c.ddt.all fun e=>decide ((ptN e.ea (qaz c.sets):Int)=e.ec))with
  | false=>simp
  | true =>
   have hL:∀ p∈qaz c.sets,0≤p.pa∧(0<p.pa→∃ e∈c.ddt,e.ea=p.pa):=fun p hp=>by
    refine⟨hpa p hp,fun h0=>?_⟩
    have:=List.all_eq_true.1 h1 p hp
    simp only[ptSumB,Bool.or_eq_true,decide_eq_true_eq,Bool.and_eq_true]at this
    rcases this with h | h
    ·omega
    ·obtain⟨e,he,hea⟩:=ddT_some h.1
     exact⟨e,List.mem_of_getElem? he,hea⟩
   have h3:=sum_one hd2.2 (by omega) _ hL
   have h4:=sumEc_eq (l:=c.ddt) (L:=qaz c.sets) fun e he=>by simpa using List.all_eq_true.1 h2 e he
   simp[h4,h3,nnS]
theorem countsOkC (c:CO) (h:CoT c) (hd:qbc c.ddt=true) (hs:∀ s∈c.sets,csOkB s=true):CV prog 222 [.agg c.row] (.bool (cntOkB c && sumOkB c)):=by
 have hdd:=ddt_ec hd
 have hdl:=hdd.1
 have hs1:=h.sets
 obtain⟨F,hF⟩:∃ F,(c.ddt.all fun e=>decide ((ptN e.ea (qaz c.sets):Int)=e.ec))=F:=⟨_,rfl⟩
 obtain⟨R,hR⟩:∃ R,((qaz c.sets).all (ptZB c.ddt) && F)=R:=⟨_,rfl⟩
 have hfin:(cntOkB c && sumOkB c)=R:=by
  rw[← hR,← hF]
  exact cntSum c h hd hs
 rw[hfin]
 refine cvx func222 [(10,[zI 0,zI 1,zI 2,zI 3,zJ 4 [1] [],zJ 5 [] [1],zI 6,zI 7,zI 8,zJ 9 [] [1],zJ 10 [7] [1],zI 11,zI 12]),(18,[zI 0,zJ 1 [11] [],zJ 2 [] [11],zJ 3 [] [11],zJ 4 [15] [11],zJ 5 [15] [11],zI 6])] ntmps222 rfl rfl rfl ?_
 simp -implicitDefEqProofs
 refine⟨by omega,?_⟩
 refine ev_lo (X:=Nat) [1,3,17,18,19] [(1,1),(15,15)] (fun i=>[(19,.int .i64 i)]) (fun i=>[(1,⟨7,[c.row]⟩),(15,⟨1,c.ddt.map (cntRow c (qaz (c.sets.take i)))⟩)]) (fun i=>c.sets.length-i)
  (fun i=>i≤c.sets.length∧((qaz (c.sets.drop i)).all (ptZB c.ddt) && F)=R) 0 (by simpa using hR) ?_ (he:=by simp[qaz,cnt_nil])
 rintro i ⟨hi,ha⟩
 cases hr:c.sets.drop i with
 | nil =>
  have:=dropn hr
  rw[hr]at ha
  have hie:i=c.sets.length:=by omega
  have ha':F=R:=by simpa [qaz]using ha
  simp -implicitDefEqProofs [hie]
  refine ev_lp (X:=Nat) [3,61,62,63] [(15,15)] (fun i=>[(63,.int .i64 i)]) (fun _=>[]) (fun i=>c.ddt.length-i) (fun i=>i≤c.ddt.length∧((c.ddt.drop i).all fun e=>decide ((ptN e.ea (qaz c.sets):Int)=e.ec))=R) 0 (by simp;rw[← ha',← hF]) ?_
  rintro j ⟨hj,hb⟩
  cases hq:c.ddt.drop j with
  | nil =>
   have:=dropn hq
   rw[hq]at hb
   have hje:j=c.ddt.length:=by omega
   simp -implicitDefEqProofs [hje]
   grind
  | cons e r =>
   obtain⟨h1,e0,e1,h3⟩:=dropc hq
   rw[hq]at hb
   have e2:=i64w ((j:Int)+1) (by omega) (by omega)
   simp -implicitDefEqProofs [h1,e0,e1,e2,cntRow]
   repeat' first
    | with_reducible intro _
    | with_reducible refine And.intro ?_ ?_
   all_goals first
    | exact nx (j+1) [(15,15)] (by grind)
    | grind
 | cons x r =>
  obtain⟨h1,e0,e1,h3⟩:=dropc hr
  have hxm:=List.mem_of_getElem? e1
  have hx8:=h.m8 x hxm
  have hrl:=qbf x hx8
  have ht:List.take 31 x.row=x.row:=List.take_of_length_le (by omega)
  have hm24:=cs_map24 x hx8
  rw[hr]at ha
  have ha':(x.map.all (ptZB c.ddt) && ((qaz r).all (ptZB c.ddt) && F))=R:=by rw[← ha];simp[qaz,Bool.and_assoc]
  have e2:=i64w ((i:Int)+1) (by omega) (by omega)
  simp -implicitDefEqProofs [h1,e0,e1,hrl,ht,hm24]
  refine⟨oneA_cs x,?_⟩
  refine ev_lo (X:=Nat) [1,3,17,18,19,24,25] [(1,1),(15,15)] (fun j=>[(25,.int .i64 j)]) (fun j=>[(1,⟨7,[c.row]⟩),(15,⟨1,c.ddt.map (cntRow c (qaz (c.sets.take i)++x.map.take j))⟩)]) (fun j=>8-j)
   (fun j=>j≤8∧((x.map.drop j).all (ptZB c.ddt) && ((qaz r).all (ptZB c.ddt) && F))=R) 0 (by simpa using ha') ?_
  rintro j ⟨hj,hb⟩
  by_cases h2:j<8
  ·obtain⟨p,f1⟩:∃ p,x.map[j]?=some p:=⟨_,List.getElem?_eq_getElem (by omega)⟩
   rw[dropAt f1]at hb
   have e3:=i64w ((j:Int)+1) (by omega) (by omega)
   have h2':(j:Int)<8:=by omega
   have hfa:=flat_at f1
   obtain⟨hpo,hp0,hp1⟩:=cs_pt (hs x hxm) (List.mem_of_getElem? f1)
   simp -implicitDefEqProofs [h2',hfa,sum3 hx8]
   refine⟨by omega,fun hz=>?_,fun hz=>?_⟩
   ·have hne:∀ e∈c.ddt,e.ea≠p.pa:=fun e he=>by
     simp only[qbc,Bool.and_eq_true]at hd
     have:=((ddtR_up hd.2).1 e he).1;omega
    exact nx (j+1) [(1,1),(15,15)] ⟨by omega,by simpa [ptZB,hz]using hb⟩ (h4:=by simp[e3,takeS f1,← List.append_assoc,cnt_same _ _ _ hne])
   ·refine(ddtPlaceC c.ddt p.pa hd (by omega)).call ?_
    cases hT:ddT c.ddt p.pa with
    | false =>
     have:ptZB c.ddt p=false:=by simp[ptZB,ptSumB,hT,hz];omega
     simp -implicitDefEqProofs
     grind
    | true =>
     obtain⟨e,he,hea⟩:=ddT_some hT
     obtain⟨hk,hk0⟩:=List.getElem?_eq_some_iff.1 he
     have hps:ptZB c.ddt p=(e.es == p.ps):=by simp[ptZB,ptSumB,hT,he,hz];intro;omega
     have hcl:=ptN_le p.pa (qaz (c.sets.take i)++x.map.take j)
     have hpl:=pts_len (c.sets.take i) (fun s hs=>h.m8 s (List.mem_of_mem_take hs))
     simp only[List.length_append,List.length_take]at hcl hpl
     have e4:=i64w ((ptN p.pa (qaz (c.sets.take i)++x.map.take j):Int)+1) (by omega) (by omega)
     have hcr:cntRow c (qaz (c.sets.take i)++x.map.take j) e=[.int .i64 (ptN p.pa (qaz (c.sets.take i)++x.map.take j))]:=by simp[cntRow,hea]
     simp -implicitDefEqProofs [hk,hk0,he,hcr,e4]
     exact⟨fun _=>by grind,fun _=>nx (j+1) [(1,1),(15,15)] ⟨by omega,by grind⟩ (h4:=by simp[e3,takeS f1,← List.append_assoc,← cnt_set c _ p hd he hea])⟩
  ·have:j=8:=by omega
   subst this
   simp -implicitDefEqProofs [e2]
   simp[← hx8]at hb
   refine nx (i+1) [(1,1),(15,15)] ⟨by omega,by rw[h3];grind⟩ (h4:=?_)
   have:qaz (c.sets.take (i+1))=qaz (c.sets.take i)++x.map.take 8:=by
    rw[takeS e1,List.take_of_length_le (l:=x.map) (by omega)];simp[qaz]
   simp[this]
theorem iCoreOk (c:CO) (h:CoT c):CV prog 121 [.agg c.row] (.bool (qax c)):=by
  obtain⟨R,hR⟩:∃ R,qax c=R:=⟨_,rfl⟩
  rw[hR]
  have hany:(c.parts.any fun p=>!qam p)=!(c.parts.all qam):=by rw[List.not_all_eq_any_not]
  have hany2:(c.sets.any fun p=>!csOkB p)=!(c.sets.all csOkB):=by rw[List.not_all_eq_any_not]
  refine cvx func121 [] ntmps121 rfl rfl rfl ?_
  simp -implicitDefEqProofs
  repeat' first
    | (refine(withinC' ..).call ?_;simp -implicitDefEqProofs)
    | (refine(iDdtOkC c.ddt h.ddt).call ?_;simp -implicitDefEqProofs)
    | (refine(contPt (fun p=>!qam p) _ c.parts (by omega) (fun x _=>coreOk1 x)).call ?_;simp -implicitDefEqProofs)
    | with_reducible intro _
    | with_reducible refine And.intro ?_ ?_
  all_goals try (grind[qax,wiB];done)
  have hd:qbc c.ddt=true:=by assumption
  have hsl:=h.safe
  have hs1:=h.sets
  have hrest:qax c=(qcd 12 c.safe && (c.sets.all csOkB && (qbb (c.sets.map csB) && (cntOkB c && sumOkB c)))):=by grind[qax,wiB]
  rw[hrest]at hR
  obtain⟨T,hT⟩:∃ T,(c.sets.all csOkB && (qbb (c.sets.map csB) && (cntOkB c && sumOkB c)))=T:=⟨_,rfl⟩
  rw[hT]at hR
  refine ev_lp (X:=Nat×Int) [1,33,34,35] [(1,1)] (fun x=>[(35,.int .i64 x.1)]) (fun _=>[]) (fun x=>c.safe.length-x.1)
     (fun x=>x.1≤c.safe.length∧(x.1=0→x.2=12)∧(∀ k,x.1=k+1→c.safe[k]?=some x.2)∧(qcd x.2 (c.safe.drop x.1) && T)=R) (0,12) (by simp[hR]) ?_
  rintro⟨i,q⟩ ⟨hi,h0,hp,hdd⟩
  simp only at hi h0 hp hdd
  cases hr:c.safe.drop i with
  | nil =>
    have:=dropn hr
    rw[hr]at hdd
    have hie:i=c.safe.length:=by omega
    have hTR:T=R:=by simpa [qcd]using hdd
    rw[hTR]at hT
    simp -implicitDefEqProofs [hie]
    refine(contCs (fun s=>!csOkB s) _ c.sets (by omega) h.m8 (fun x hx=>coreOk2 x (h.m8 x hx) (h.nm x hx).1 (h.nm x hx).2)).call ?_
    rw[hany2]
    cases hall:c.sets.all csOkB with
    | false =>
      simp -implicitDefEqProofs
      grind
    | true =>
      have hok:∀ s∈c.sets,csOkB s=true:=List.all_eq_true.1 hall
      simp -implicitDefEqProofs
      refine(frameC c h.sets h.m8).call ?_
      simp -implicitDefEqProofs
      refine(iBookOk _ (bkG_cs hok) (by simpa using h.sets)).call ?_
      simp -implicitDefEqProofs
      repeat' first
        | (refine(countsOkC c h hd hok).call ?_;simp -implicitDefEqProofs)
        | with_reducible intro _
        | with_reducible refine And.intro ?_ ?_
      all_goals grind
  | cons x r =>
    obtain⟨h1,e0,e1,h3⟩:=dropc hr
    rw[hr]at hdd
    have e2:=i64w ((i:Int)+1) (by omega) (by omega)
    by_cases hz:i=0
    · subst hz
      simp -implicitDefEqProofs [h1,e0,e1]
      refine(withinC' ..).call ?_
      simp -implicitDefEqProofs
      repeat' first
        | with_reducible intro _
        | with_reducible refine And.intro ?_ ?_
      all_goals first
        | exact nx (1,x) [(1,1)] (by grind[qcd,wiB])
        | grind[qcd,wiB]
    · obtain⟨k,hk⟩:∃ k,i=k+1:=⟨i-1,by omega⟩
      have f1:=hp k hk
      have h1':k<c.safe.length:=by omega
      have f0:c.safe[k]=q:=by grind
      have e3:(i:Int)-1=k:=by omega
      have e4:=i64w (k:Int) (by omega) (by omega)
      have hpos:0<i:=by omega
      simp -implicitDefEqProofs [h1,e0,e1]
      refine(withinC' ..).call ?_
      simp -implicitDefEqProofs [h1,e0,h1',f0,e2,e3,e4,hpos]
      repeat' first
        | with_reducible intro _
        | with_reducible refine And.intro ?_ ?_
      all_goals first
        | exact nx (i+1,x) [(1,1)] (by grind[qcd,wiB])
        | grind[qcd,wiB]
theorem ix_ev1 {α:Type} {row:α→List AV} {tS tE sz g:Nat} {o:Ob} (hT:RowT row tS tE sz) (p:α→Bool) (l:List α) (hl:l.length≤9000000) (hs:∀ x∈l,(row x).length=sz) (ho:clR o.els=true)
  (hg:∀ x∈l,CW prog g [.agg (row x),.ptr 1000 0 0] o (.bool (p x))) :
  ev prog ⟨19,[1000]⟩ (ixA tS tE) (retQ prog [.tmp 4] (fun r L'=>r=.int .i64 (ixR p 0 l)∧L'=[(1000,o)])) ⟨argT [.lst sz (l.map row),.fn g [.ptr 1000 0 0]],hpOf [(1000,o)],Us.of [1000]⟩:=by
 obtain⟨fs,b,z,hE⟩:=hT.E
 have hS:=hT.S
 have hro:∀ ρ,renOb ρ o=o:=fun ρ=>renOb_cl ho
 obtain⟨R,hR⟩:∃ R,ixR p 0 l=R:=⟨_,rfl⟩
 rw[hR]
 simp -implicitDefEqProofs [ixA,hS,hE]
 refine ev_lp (X:=Nat) [0,1,7,8] [(1000,1000)] (fun i=>[(8,.int .i64 i)]) (fun _=>[]) (fun i=>l.length-i) (fun i=>i≤l.length∧ixR p i (l.drop i)=R) 0 (by simp[hR]) ?_ (he:=by simp[hro])
 rintro i ⟨hi,hd⟩
 cases hr:l.drop i with
 | nil =>
  have:=dropn hr
  rw[hr]at hd
  have hie:i=l.length:=by omega
  simp -implicitDefEqProofs [hie,hro]
  grind[ixR]
 | cons x r =>
  obtain⟨h1,e0,e1,h3⟩:=dropc hr
  rw[hr]at hd
  have hx:=List.mem_of_getElem? e1
  have e2:=i64w ((i:Int)+1) (by omega) (by omega)
  have hrl:=hs x hx
  have ht:(row x).take sz=row x:=List.take_of_length_le (by omega)
  simp -implicitDefEqProofs [hS,hE,h1,e0,e1,hrl,ht,hro]
  refine(hg x hx).call 1000 (by simp) (by simp[mtL_cl _ (hT.cl x)]) ?_
  simp -implicitDefEqProofs [e2]
  exact⟨fun hp=>by grind[ixR],fun hp=>nx (i+1) [(1000,1000)] (by grind[ixR]) (h4:=by simp[hro])⟩
theorem ixR_find {α:Type} (p:α→Bool):∀ (l:List α) (i:Nat),(∃ k x,ixR p i l=((i+k:Nat):Int)∧l[k]?=some x∧l.find? p=some x)∨(ixR p i l=-1∧l.find? p=none)
 | [],i=>.inr ⟨rfl,rfl⟩
 | x::r,i=>by
  cases h:p x with
  | true=>exact .inl ⟨0,x,by simp[ixR,h],rfl,by simp[h]⟩
  | false =>
   rcases ixR_find p r (i+1)with⟨k,y,h1,h2,h3⟩ | ⟨h1,h2⟩
   ·exact .inl ⟨k+1,y,by simp[ixR,h,h1];omega,by simpa using h2,by simp[h,h3]⟩
   ·exact .inr ⟨by simp[ixR,h,h1],by simp[h,h2]⟩
theorem findAt {l:List CS} (name:List UInt8) (hS:Srt (l.map csB)):(atB (l.map csB) name=true→l[atP (l.map csB) name]?=l.find? (fun s=>s.name == name)∧(l.find? (fun s=>s.name == name)).isSome=true)∧(atB (l.map csB) name=false→l.find? (fun s=>s.name == name)=none):=by
 have hne:∀ (i j:Nat) (a b:CS),i<j→l[i]?=some a→l[j]?=some b→Op.bytesLess a.name b.name=true:=fun i j a b hij ha hb =>
  hS i j (csB a) (csB b) hij (by simp[ha]) (by simp[hb])
 have hirr:∀ a:List UInt8,Op.bytesLess a a=false:=fun a=>by rw[Go.Proofs.bytesLess_eq];simp
 have hun:∀ (i j:Nat) (a b:CS),l[i]?=some a→l[j]?=some b→a.name=b.name→i=j:=fun i j a b ha hb he=>by
  rcases Nat.lt_trichotomy i j with h | h | h
  ·have:=hne i j a b h ha hb;rw[he,hirr]at this;cases this
  ·exact h
  ·have:=hne j i b a h hb ha;rw[he,hirr]at this;cases this
 refine⟨fun h=>?_,fun h=>?_⟩
 ·obtain⟨t,ht,htn⟩:=atB_some h
  rw[List.getElem?_map,Option.map_eq_some_iff]at ht
  obtain⟨s,hs,rfl⟩:=ht
  rcases ixR_find (fun s:CS=>s.name == name) l 0 with⟨k,x,_,h2,h3⟩ | ⟨_,h2⟩
  ·have hxn:x.name=name:=by simpa using List.find?_some h3
   have:=hun _ _ s x hs h2 (by rw[hxn];exact htn)
   subst this
   rw[hs]at h2
   rw[hs,h3,h2];exact⟨rfl,rfl⟩
  ·have:=List.find?_eq_none.1 h2 s (List.mem_of_getElem? hs)
   simp at this
   exact absurd htn this
 ·rw[List.find?_eq_none]
  intro x hx hxn
  have hxn':x.name=name:=by simpa using hxn
  obtain⟨k,hk,rfl⟩:=List.mem_iff_getElem.1 hx
  have hk':l[k]?=some l[k]:=List.getElem?_eq_getElem hk
  have hp:atP (l.map csB) name=k:=(takeWhile_step (fun b:BS=>Op.bytesLess b.name name) (l.map csB) k (csB l[k]) (fun j hj y hy=>by
   rw[List.getElem?_map,Option.map_eq_some_iff]at hy
   obtain⟨z,hz,rfl⟩:=hy
   have:=hne j k z l[k] hj hz hk'
   rw[hxn']at this;exact this) (by simp[hk'])).2 (by show Op.bytesLess l[k].name name=false;rw[hxn',hirr])
  unfold atB at h
  rw[hp]at h
  simp[hk',csB,hxn']at h
theorem core_book {c:CO} (h:qax c=true):qbb (c.sets.map csB)=true:=by
 simp only[qax,Bool.and_eq_true]at h
 exact h.1.1.2
theorem core_srt {c:CO} (h:qax c=true):Srt (c.sets.map csB):=ibookOkB_srt (by rw[ok_eq];exact core_book h)
theorem core_ddt {c:CO} (h:qax c=true):qbc c.ddt=true:=by
 simp only[qax,Bool.and_eq_true]at h
 exact h.1.1.1.1.1.1.1.1.1.2
def mdig (k:Nat) (out:List UInt8):List UInt8:=if h:k=0 then out else mdig (k / 10) (UInt8.ofNat (48+k % 10)::out)
termination_by k
def mtB (k:Nat):List UInt8:=if k=0 then [109,48] else 109::mdig k []
attribute [simp] clL_strs
def szSs:List (List UInt8)→Int→Int
 | [],l=>l
 | t::r,l=>if l-t.length<0 then -1 else szSs r (l-t.length)
theorem szSs_le:∀ (ts:List (List UInt8)) (l:Int),0≤l→szSs ts l≤l∧-1≤szSs ts l∧(0≤szSs ts l→∀ t∈ts,(t.length:Int)≤l)
 | [],l,h=>by simp[szSs];omega
 | t::r,l,h=>by
  unfold szSs
  split
  ·refine⟨by omega,by omega,fun h'=>by omega⟩
  ·obtain⟨h1,h2,h3⟩:=szSs_le r (l-t.length) (by omega)
   refine⟨by omega,h2,fun h' t' ht=>?_⟩
   rcases List.mem_cons.1 ht with rfl | ht
   ·omega
   ·have:=h3 h' t' ht
    omega
def BkS (bs:List BS):Prop:=bs.length≤1048576∧∀ b∈bs,b.bl.length=8∧b.name.length≤1048576∧b.frm.length≤1048576
def opS (o:BO):Prop:=o.a.length≤1048576∧o.b.length≤1048576
theorem phs_tup1 {id sz:Nat} {z:AV}:phs id sz (.tup [.agg [.nils],z]) (.tup [.agg [.sl id 0 0],z]):=phs_tup2 phs_agg1 (phs_refl _ _ _)
theorem noL_bs (b:BS):noL b.row=true:=by simp[BS.row,noL_strs]
theorem idoO (bs:List BS) (o:BO) (h:BkS bs) (ho:opS o):ACall prog 52 [bk bs,.agg (BO.row o)] [] (fun r L'=>r=.tup [.agg [.sl 903 0 (resB bs o).1.length],.int .i64 (resB bs o).2]∧L'=[(903,bkOb (resB bs o).1)]):=by
 have hc:=ok_eq bs ▸ ibookDoC bs o (by have:=h.1;omega) (fun b hb=>(h.2 b hb).1) (fun b hb=>by have:=(h.2 b hb).2.1;omega) ⟨by have:=ho.1;omega,by have:=ho.2;omega⟩
 refine ACall.ph 903 11 hc (by simp) ?_
 intro r L' hr
 unfold bkN at hr
 unfold resB
 split at hr
 ·rename_i hk
  obtain⟨id,hid,rfl,rfl⟩:=hr
  simp only[List.mem_singleton]at hid
  subst hid
  exact .inl (by rw[if_pos hk];exact⟨rfl,rfl⟩)
 ·rename_i hk
  obtain⟨rfl,rfl⟩:=hr
  exact .inr ⟨by simp,by simp,_,phs_tup1,by rw[if_neg hk];exact⟨rfl,rfl⟩⟩
theorem idoC' (bs:List BS) (o:BO) (h:BkS bs) (ho:opS o):CV prog 52 [bk bs,.agg (BO.row o)] (.tup [bk (resB bs o).1,.int .i64 (resB bs o).2]):=by
 refine CV.of_frz (idoO bs o h ho) ?_ (hca:=by simp[bk,BO.row]) (hcv:=by simp[bk])
 rintro r L' ⟨rfl,rfl⟩
 refine⟨by simp,by simp,by simp,?_⟩
 simp[frzAll,bk,bkOb]
 exact qbw _
theorem sdoC' (bs:List BS) (o:BO) (h:BkS bs) (ho:opS o):CV prog 43 [bk bs,.agg (BO.row o)] (.tup [bk (resB bs o).1,.int .i64 (resB bs o).2]) :=
 cv_of (pureC (xs:=[901,902]) (sbookDoC bs o (by have:=h.1;omega) (fun b hb=>(h.2 b hb).1) (fun b hb=>by have:=(h.2 b hb).2.1;omega) ⟨by have:=ho.1;omega,by have:=ho.2;omega⟩)) (hca:=by simp[bk,BO.row]) (hcv:=by simp[bk])
structure BK where
 sets:List BS
def BK.row (b:BK):List AV:=[.lst 11 (b.sets.map BS.row)]
theorem str_shp {n:Nat} {avs:List AV} (h:Shp prog (n+1) 9 avs):∃ s:List UInt8,s.length≤maxLen∧avs=[.str s]:=shp_string underlying9 h
def findB (c:UInt8):List UInt8→Int→Int
 | [],_=>-1
 | x::r,i=>if x=c then i else findB c r (i+1)
theorem findC (s:List UInt8) (c:UInt8) (hs:s.length≤maxLen):CV prog 332 [.str s,.int .u8 (c.toNat:Int)] (.int .i64 (findB c s 0)):=by
 obtain⟨R,hR⟩:∃ R,findB c s 0=R:=⟨_,rfl⟩
 rw[hR]
 have hml:maxLen=9223372036854775807:=rfl
 refine cvx func332 [] ntmps332 rfl rfl rfl ?_
 simp -implicitDefEqProofs
 refine ev_lp (X:=Nat) [0,1,5] [] (fun x=>[(5,.int .i64 x)]) (fun _=>[]) (fun x=>s.length-x) (fun x=>x≤s.length∧findB c (s.drop x) x=R) 0 (by simp[hR]) ?_
 rintro i ⟨hi,hd⟩
 cases hr:s.drop i with
 | nil =>
  have:=dropn hr
  rw[hr]at hd
  have hie:i=s.length:=by omega
  simp[findB]at hd
  simp -implicitDefEqProofs [hie,hd]
 | cons x r =>
  obtain⟨h1,e0,e1,h3⟩:=dropc hr
  rw[hr,findB]at hd
  have e2:=i64w ((i:Int)+1) (by omega) (by omega)
  by_cases hxc:x=c
  ·subst hxc
   rw[if_pos rfl]at hd
   simp -implicitDefEqProofs [h1,e0,e1,e2]
   exact hd
  ·rw[if_neg hxc]at hd
   have e3:¬ ((x.toNat:Int)=c.toNat):=fun h=>hxc (UInt8.toNat_inj.1 (by omega))
   simp -implicitDefEqProofs [h1,e0,e1,e2,e3]
   exact nx (i+1) [] (by simp only[h3];exact⟨by omega,by simpa using hd⟩) (h4:=by simp[e2])
def sumB:List UInt8→Nat→Nat
 | [],n=>n
 | x::r,n=>sumB r ((n * 257+x.toNat+1) % 65521)
theorem ssumC (s:List UInt8) (hs:s.length≤maxLen):CV prog 266 [.str s] (.int .i64 (sumB s (1+s.length % 997):Nat)):=by
 obtain⟨R,hR⟩:∃ R,sumB s (1+s.length % 997)=R:=⟨_,rfl⟩
 rw[hR]
 have hml:maxLen=9223372036854775807:=rfl
 have t1:(s.length:Int).tmod 997=(s.length:Int) % 997:=Int.tmod_eq_emod_of_nonneg (by omega)
 have w1:=i64w (1+(s.length:Int) % 997) (by omega) (by omega)
 refine cvx func266 [] ntmps266 rfl rfl rfl ?_
 simp -implicitDefEqProofs [t1,w1]
 refine ev_lp (X:=Nat×Nat) [0,3,4] [] (fun x=>[(4,.int .i64 x.1),(3,.int .i64 x.2)]) (fun _=>[]) (fun x=>s.length-x.1) (fun x=>x.1≤s.length∧x.2<65521∧sumB (s.drop x.1) x.2=R) (0,1+s.length % 997) (by simp[hR];omega) ?_
 rintro⟨i,n⟩ ⟨hi,hn,hd⟩
 simp only at hi hn hd
 cases hr:s.drop i with
 | nil =>
  have:=dropn hr
  rw[hr]at hd
  have hie:i=s.length:=by omega
  simp[sumB]at hd
  simp -implicitDefEqProofs [hie,hd]
 | cons x r =>
  obtain⟨h1,e0,e1,h3⟩:=dropc hr
  rw[hr,sumB]at hd
  have e2:=i64w ((i:Int)+1) (by omega) (by omega)
  have hx:=x.toNat_lt
  have w2:=i64w ((n:Int) * 257) (by omega) (by omega)
  have w3:=i64w ((n:Int) * 257+x.toNat) (by omega) (by omega)
  have w4:=i64w ((n:Int) * 257+x.toNat+1) (by omega) (by omega)
  have w6:=i64w (x.toNat:Int) (by omega) (by omega)
  have t2:((n:Int) * 257+x.toNat+1).tmod 65521=((n:Int) * 257+x.toNat+1) % 65521:=Int.tmod_eq_emod_of_nonneg (by omega)
  have w5:=i64w (((n:Int) * 257+x.toNat+1) % 65521) (by omega) (by omega)
  simp -implicitDefEqProofs [h1,e0,e1,e2,w2,w3,w4,w5,w6,t2]
  exact nx (i+1,(n * 257+x.toNat+1) % 65521) [] (by simp only[h3];exact⟨by omega,by omega,hd⟩) (by simp only;omega) (h4:=by simp[e2,w2,w3,w4,w5,w6,t2])
theorem isumC (s:List UInt8) (hs:s.length≤maxLen):CV prog 272 [.str s] (.int .i64 (sumB s (1+s.length % 997):Nat)):=by
 obtain⟨R,hR⟩:∃ R,sumB s (1+s.length % 997)=R:=⟨_,rfl⟩
 rw[hR]
 have hml:maxLen=9223372036854775807:=rfl
 have t1:(s.length:Int).tmod 997=(s.length:Int) % 997:=Int.tmod_eq_emod_of_nonneg (by omega)
 have w1:=i64w (1+(s.length:Int) % 997) (by omega) (by omega)
 refine cvx func272 [] ntmps272 rfl rfl rfl ?_
 simp -implicitDefEqProofs [t1,w1]
 refine ev_lp (X:=Nat×Nat) [0,3,10,11] [] (fun x=>[(11,.int .i64 x.1),(3,.int .i64 x.2)]) (fun _=>[]) (fun x=>s.length-x.1) (fun x=>x.1≤s.length∧x.2<65521∧sumB (s.drop x.1) x.2=R) (0,1+s.length % 997) (by simp[hR];omega) ?_
 rintro⟨i,n⟩ ⟨hi,hn,hd⟩
 simp only at hi hn hd
 cases hr:s.drop i with
 | nil =>
  have:=dropn hr
  rw[hr]at hd
  have hie:i=s.length:=by omega
  simp[sumB]at hd
  simp -implicitDefEqProofs [hie,hd]
 | cons x r =>
  obtain⟨h1,e0,e1,h3⟩:=dropc hr
  rw[hr,sumB]at hd
  have e2:=i64w ((i:Int)+1) (by omega) (by omega)
  have hx:=x.toNat_lt
  have w2:=i64w (257 * (n:Int)) (by omega) (by omega)
  have w3:=i64w (257 * (n:Int)+x.toNat) (by omega) (by omega)
  have w4:=i64w (257 * (n:Int)+x.toNat+1) (by omega) (by omega)
  have w6:=i64w (x.toNat:Int) (by omega) (by omega)
  have t2:(257 * (n:Int)+x.toNat+1).tmod 65521=(257 * (n:Int)+x.toNat+1) % 65521:=Int.tmod_eq_emod_of_nonneg (by omega)
  have w5:=i64w ((257 * (n:Int)+x.toNat+1) % 65521) (by omega) (by omega)
  simp -implicitDefEqProofs [h1,e0,e1,e2,w2,w3,w4,w5,w6,t2]
  rw[Nat.mul_comm]at hd
  exact nx (i+1,(257 * n+x.toNat+1) % 65521) [] (by simp only[h3];exact⟨by omega,by omega,hd⟩) (by simp only;omega) (h4:=by simp[e2,w2,w3,w4,w5,w6,t2])
def ddig (k:Nat) (out:List UInt8):List UInt8:=if h:k≤9 then UInt8.ofNat (48+k)::out else ddig (k / 10) (UInt8.ofNat (48+k % 10)::out)
termination_by k
theorem sdecC (k:Nat) (hk:k<1000000000):CV prog 268 [.int .i64 k] (.str (ddig k [])):=by
 obtain⟨R,hR⟩:∃ R,ddig k []=R:=⟨_,rfl⟩
 rw[hR]
 refine cvx func268 [] ntmps268 rfl rfl rfl ?_
 have h0:¬ (k:Int) < -9223372036854775807:=by omega
 have h1:¬ (k:Int)<0:=by omega
 simp -implicitDefEqProofs [h0,h1]
 refine ev_lp (X:=Nat×List UInt8) [0,3] [] (fun x=>[(0,.int .i64 x.1),(3,.str x.2)]) (fun _=>[]) (fun x=>x.1) (fun x=>x.2.length+x.1≤k∧ddig x.1 x.2=R) (k,[]) (by simp[hR]) ?_
 rintro⟨j,out⟩ ⟨hj,hm⟩
 simp only at hj hm
 rw[ddig]at hm
 by_cases hz:j≤9
 ·rw[dif_pos hz]at hm
  have h2:¬ (9:Int)<j:=by omega
  have e1:=i64w (48+(j:Int)) (by omega) (by omega)
  have e2:byteOf [.int .u8 (IntKind.u8.wrap (48+(j:Int)))]=UInt8.ofNat (48+j):=by
   have:IntKind.u8.wrap (48+(j:Int))=((48+j:Nat):Int):=by
    show(48+(j:Int)) % 256=_
    omega
   rw[this]
   rfl
  simp -implicitDefEqProofs [h2,e1]
  refine⟨isU8_wrap _,by omega,?_⟩
  rw[← hm,e2]
 ·rw[dif_neg hz]at hm
  have h2:(9:Int)<j:=by omega
  have e1:=i64w (48+(j:Int) % 10) (by omega) (by omega)
  have e3:=i64w ((j:Int) / 10) (by omega) (by omega)
  have e2:byteOf [.int .u8 (IntKind.u8.wrap (48+(j:Int) % 10))]=UInt8.ofNat (48+j % 10):=by
   have:IntKind.u8.wrap (48+(j:Int) % 10)=((48+j % 10:Nat):Int):=by
    show(48+(j:Int) % 10) % 256=_
    omega
   rw[this]
   rfl
  have t1:(j:Int).tmod 10=(j:Int) % 10:=Int.tmod_eq_emod_of_nonneg (by omega)
  have t2:(j:Int).tdiv 10=(j:Int) / 10:=Int.tdiv_eq_ediv_of_nonneg (by omega)
  simp -implicitDefEqProofs [h2,t1,t2,e1,e3]
  refine⟨isU8_wrap _,by omega,?_⟩
  refine nx (j / 10,UInt8.ofNat (48+j % 10)::out) [] ?_ ?_ (h4:=?_)
  ·refine⟨?_,hm⟩
   simp only[List.length_cons]
   omega
  ·simp only
   omega
  ·simp[t1,t2,e1,e2,e3]
theorem ddig_len (k:Nat) (out:List UInt8):(ddig k out).length≤out.length+k+1:=by
 induction k using Nat.strongRecOn generalizing out with
 | _ k ih =>
  rw[ddig]
  split
  ·simp only[List.length_cons]
   omega
  ·have:=ih (k / 10) (by omega) (UInt8.ofNat (48+k % 10)::out)
   simp only[List.length_cons]at this
   omega
def sealB (s:List UInt8):List UInt8:=if 400<s.length then [] else ddig (sumB s (1+s.length % 997)) []++58::s
theorem sumB_lt:∀ (s:List UInt8) (n:Nat),n<65521→sumB s n<65521
 | [],n,h=>h
 | x::r,n,h=>sumB_lt r _ (Nat.mod_lt _ (by omega))
theorem ssealC (s:List UInt8) (hs:s.length≤maxLen):CV prog 269 [.str s] (.str (sealB s)):=by
 have hlt:=sumB_lt s (1+s.length % 997) (by omega)
 refine cvx func269 [] ntmps269 rfl rfl rfl ?_
 unfold sealB
 by_cases h:400<s.length
 ·have h':(400:Int)<s.length:=by omega
  simp -implicitDefEqProofs [h,h']
 ·have h':¬ (400:Int)<s.length:=by omega
  rw[if_neg h]
  simp -implicitDefEqProofs [h']
  refine(ssumC s hs).call ?_
  simp -implicitDefEqProofs
  refine(sdecC _ (by omega)).call ?_
  simp -implicitDefEqProofs
  have hdl:=ddig_len (sumB s (1+s.length % 997)) []
  simp only[List.length_nil]at hdl
  omega
def openB (s:List UInt8):List UInt8×Bool :=
 if findB 58 s 0<0 then ([],false) else if sealB (s.drop ((findB 58 s 0).toNat+1))=s then (s.drop ((findB 58 s 0).toNat+1),true) else ([],false)
theorem findB_lt:∀ (c:UInt8) (s:List UInt8) (i:Int),0≤i→findB c s i<i+s.length
 | c,[],i,h=>by simp[findB];omega
 | c,x::r,i,h=>by
  unfold findB
  split
  ·simp;omega
  ·have:=findB_lt c r (i+1) (by omega)
   simp only[List.length_cons]
   omega
theorem findB_ge:∀ (c:UInt8) (s:List UInt8) (i:Int),0≤i→findB c s i=-1∨i≤findB c s i
 | c,[],i,h=>.inl rfl
 | c,x::r,i,h=>by
  unfold findB
  split
  ·exact .inr (Int.le_refl _)
  ·rcases findB_ge c r (i+1) (by omega)with h | h
   ·exact .inl h
   ·exact .inr (by omega)
theorem sopenC (s:List UInt8) (hs:s.length≤1048576):CV prog 282 [.str s] (.tup [.str (openB s).1,.bool (openB s).2]):=by
 obtain⟨R,hR⟩:∃ R,openB s=R:=⟨_,rfl⟩
 rw[hR]
 have hml:maxLen=9223372036854775807:=rfl
 have hlt:=findB_lt 58 s 0 (by omega)
 have hge:=findB_ge 58 s 0 (by omega)
 have fc:=findC s 58 (by omega)
 have sc:=ssealC (s.drop ((findB 58 s 0).toNat+1)) (by simp;omega)
 refine cvx func282 [] ntmps282 rfl rfl rfl ?_
 simp -implicitDefEqProofs
 refine fc.call ?_
 unfold openB at hR
 generalize findB 58 s 0=k at *
 by_cases h:k<0
 ·rw[if_pos h]at hR
  simp -implicitDefEqProofs [h,← hR]
 ·rw[if_neg h]at hR
  have e1:=i64w (k+1) (by omega) (by omega)
  have d1:(k+1).toNat=k.toNat+1:=by omega
  have d2:List.take (s.length-(k.toNat+1)) (List.drop (k.toNat+1) s)=List.drop (k.toNat+1) s:=List.take_of_length_le (by simp)
  simp -implicitDefEqProofs [h,e1,d1,d2]
  refine⟨⟨by omega,by omega⟩,?_⟩
  refine sc.call ?_
  by_cases hs2:sealB (s.drop (k.toNat+1))=s
  ·rw[if_pos hs2]at hR
   simp -implicitDefEqProofs [hs2,h,e1,d1,d2,← hR]
   exact⟨by omega,by omega⟩
  ·rw[if_neg hs2]at hR
   simp -implicitDefEqProofs [hs2,← hR]
def hexL:List UInt8:=[48,49,50,51,52,53,54,55,56,57,97,98,99,100,101,102]
def unhB:List UInt8→List UInt8→List UInt8×Bool
 | a::b::r,out=>if findB a hexL 0<0∨findB b hexL 0<0 then ([],false) else unhB r (out++[UInt8.ofNat (findB a hexL 0 * 16+findB b hexL 0).toNat])
 | [],out=>(out,true)
 | [_],_=>([],false)
theorem hex16 (c:UInt8):findB c hexL 0<16∧-1≤findB c hexL 0:=by
 have:=findB_lt c hexL 0 (by omega)
 have h2:=findB_ge c hexL 0 (by omega)
 simp[hexL]at this
 simp only[hexL]at h2 ⊢
 omega
theorem byteOf_u8:byteOf ∘ u8row=id:=by
 funext c
 show UInt8.ofNat ((c.toNat:Int).toNat)=c
 simp
theorem renL_u8c (ρ:Nat→Option Plc):renL ρ ∘ u8row=u8row:=by
 funext c
 simp[u8row]
theorem sunhC (s:List UInt8) (hs:s.length≤1048576):CV prog 291 [.str s] (.tup [.str (unhB s []).1,.bool (unhB s []).2]):=by
 obtain⟨R,hR⟩:∃ R,unhB s []=R:=⟨_,rfl⟩
 rw[hR]
 have hml:maxLen=9223372036854775807:=rfl
 have t1:(s.length:Int).tmod 2=(s.length:Int) % 2:=Int.tmod_eq_emod_of_nonneg (by omega)
 refine cvx func291 [] ntmps291 rfl rfl rfl ?_
 by_cases hodd:s.length % 2=0
 ·have h1:¬ (0:Int)<(s.length:Int) % 2:=by omega
  simp -implicitDefEqProofs [t1,h1]
  refine ev_lo (X:=Nat×List UInt8) [0,4,5] [(12,900)] (fun x=>[(5,.int .i64 x.1),(4,.sl 900 0 x.2.length)]) (fun x=>[(900,⟨1,x.2.map u8row⟩)]) (fun x=>s.length-x.1) (fun x=>x.1≤s.length∧x.1 % 2=0∧x.2.length≤x.1∧unhB (s.drop x.1) x.2=R) (0,[]) (by simp[hR]) ?_ (he:=by simp[obOf])
  rintro⟨i,out⟩ ⟨hi,hev,hol,hd⟩
  simp only at hi hev hol hd
  by_cases h2:i<s.length
  ·obtain⟨a,f1⟩:∃ a,s[i]?=some a:=⟨_,List.getElem?_eq_getElem (by omega)⟩
   obtain⟨b,f2⟩:∃ b,s[i+1]?=some b:=⟨_,List.getElem?_eq_getElem (by omega)⟩
   rw[dropAt f1,dropAt f2,unhB]at hd
   have h3:i+1<s.length:=by omega
   have g1:s[i]=a:=(List.getElem?_eq_some_iff.1 f1).2
   have g2:s[i+1]=b:=(List.getElem?_eq_some_iff.1 f2).2
   have c1:=findC hexL a (by simp[hexL,hml])
   have c2:=findC hexL b (by simp[hexL,hml])
   have b1:=hex16 a
   have b2:=hex16 b
   obtain⟨p,hp⟩:∃ p,findB a hexL 0=p:=⟨_,rfl⟩
   obtain⟨q,hq⟩:∃ q,findB b hexL 0=q:=⟨_,rfl⟩
   rw[hp]at c1 b1 hd
   rw[hq]at c2 b2 hd
   simp only[hexL]at c1 c2
   have e1:=i64w ((i:Int)+1) (by omega) (by omega)
   have e2:=i64w ((i:Int)+2) (by omega) (by omega)
   have e3:((i:Int)+1).toNat=i+1:=by omega
   simp -implicitDefEqProofs [h2,f1,g1]
   refine c1.call ?_
   simp -implicitDefEqProofs [h2,h3,f2,g2,e1,e3]
   refine⟨⟨by omega,by omega⟩,?_⟩
   refine c2.call ?_
   by_cases hpn:p<0
   ·rw[if_pos (.inl hpn)]at hd
    simp -implicitDefEqProofs [hpn,← hd]
   ·by_cases hqn:q<0
    ·rw[if_pos (.inr hqn)]at hd
     simp -implicitDefEqProofs [hpn,hqn,← hd]
    ·rw[if_neg (by omega)]at hd
     have w1:=i64w (p * 16) (by omega) (by omega)
     have w2:=i64w (p * 16+q) (by omega) (by omega)
     have w3:IntKind.u8.wrap (p * 16+q)=p * 16+q:=by
      show(p * 16+q) % 256=_
      omega
     simp -implicitDefEqProofs [hpn,hqn,w1,w2,w3]
     refine⟨by omega,?_⟩
     have hu:u8row (UInt8.ofNat (p * 16+q).toNat)=[.int .u8 (p * 16+q)]:=by
      show [AV.int .u8 (((UInt8.ofNat (p * 16+q).toNat).toNat:Nat):Int)]=_
      simp only[UInt8.toNat_ofNat']
      have:(p * 16+q).toNat % 2 ^ 8=(p * 16+q).toNat:=Nat.mod_eq_of_lt (by omega)
      rw[this]
      have:(((p * 16+q).toNat:Nat):Int)=p * 16+q:=by omega
      rw[this]
     refine nx (i+2,out++[UInt8.ofNat (p * 16+q).toNat]) [(41,900)] ⟨by simp only;omega,by simp only;omega,by simp;omega,hd⟩ (by simp only;omega) (h4:=?_)
     simp[obOf,e2,hu,List.take_of_length_le,renL_u8c]
  ·have:i=s.length:=by omega
   subst this
   rw[List.drop_eq_nil_of_le (by omega),unhB]at hd
   simp -implicitDefEqProofs [byteOf_u8,List.take_of_length_le]
   exact⟨fun _ _=>rfl,by rw[← hd],by rw[← hd]⟩
 ·have h1:(0:Int)<(s.length:Int) % 2:=by omega
  have ho:∀ (n:Nat) (l o:List UInt8),l.length=2 * n+1→unhB l o=([],false):=by
   intro n
   induction n with
   | zero =>
    intro l o hl
    match l,hl with
    | [x],_=>rfl
   | succ n ih =>
    intro l o hl
    match l,hl with
    | a::b::r,hl =>
     unfold unhB
     split
     ·rfl
     ·exact ih r _ (by simp at hl;omega)
  have:=ho (s.length / 2) s [] (by omega)
  rw[this]at hR
  simp -implicitDefEqProofs [t1,h1,← hR]
def cutR (c:UInt8):List UInt8→List UInt8→List (List UInt8)
 | [],cur=>[cur]
 | x::r,cur=>if x=c then cur::cutR c r [] else cutR c r (cur++[x])
def strR (t:List UInt8):List AV:=[.str t]
theorem renL_strR (ρ:Nat→Option Plc):renL ρ ∘ strR=strR:=by
 funext t
 simp[strR]
theorem scutO (s:List UInt8) (c:UInt8) (hs:s.length≤1048576):ACall prog 192 [.str s,.int .u8 (c.toNat:Int)] [] (fun r L'=>r=.sl 900 0 (cutR c s []).length∧L'=[(900,⟨1,(cutR c s []).map strR⟩)]):=by
 obtain⟨R,hR⟩:∃ R,cutR c s []=R:=⟨_,rfl⟩
 rw[hR]
 refine acx func192 [] ntmps192 rfl rfl rfl ?_
 simp -implicitDefEqProofs
 refine ev_lo (X:=Nat×Nat×List (List UInt8)) [0,1,5,6,7] [(8,900)] (fun x=>[(7,.int .i64 x.1),(6,.int .i64 x.2.1),(5,.sl 900 0 x.2.2.length)]) (fun x=>[(900,⟨1,x.2.2.map strR⟩)]) (fun x=>s.length+1-x.1)
  (fun x=>x.2.2.length≤x.1∧((x.1≤s.length∧x.2.1≤x.1∧x.2.2++cutR c (s.drop x.1) (List.take (x.1-x.2.1) (List.drop x.2.1 s))=R)∨(x.1=s.length+1∧x.2.2=R))) (0,0,[]) ⟨by simp,.inl ⟨by simp,by simp,by simpa using hR⟩⟩ ?_ (he:=by simp[obOf])
 rintro⟨i,fr,ps⟩ ⟨hpl,hg⟩
 simp only at hpl hg
 rcases hg with⟨hi,hf,hd⟩ | ⟨hi,hd⟩
 ·have h0:(i:Int)≤s.length:=by omega
  have e1:=i64w ((i:Int)+1) (by omega) (by omega)
  by_cases h1:i=s.length
  ·subst h1
   rw[List.drop_eq_nil_of_le (by omega),cutR]at hd
   simp -implicitDefEqProofs
   refine⟨by omega,by omega,?_⟩
   refine nx (s.length+1,s.length+1,ps++[List.take (s.length-fr) (List.drop fr s)]) [(32,900)] ⟨by simp only[List.length_append,List.length_singleton];omega,.inr ⟨rfl,hd⟩⟩ (by simp only;omega) (h4:=?_)
   simp[obOf,e1,renL_strR,strR,List.take_of_length_le]
  ·have h1':¬ (i:Int)=s.length:=by omega
   have hlt:i<s.length:=by omega
   obtain⟨x,f1⟩:∃ x,s[i]?=some x:=⟨_,List.getElem?_eq_getElem (by omega)⟩
   have f0:s[i]=x:=(List.getElem?_eq_some_iff.1 f1).2
   rw[dropAt f1,cutR]at hd
   by_cases hxc:x=c
   ·subst hxc
    rw[if_pos rfl]at hd
    simp -implicitDefEqProofs [h0,h1',hlt,f0,f1]
    refine⟨⟨by omega,by omega⟩,by omega,?_⟩
    refine nx (i+1,i+1,ps++[List.take (i-fr) (List.drop fr s)]) [(32,900)] ⟨by simp only[List.length_append,List.length_singleton];omega,.inl ⟨by simp only;omega,by simp,by simpa using hd⟩⟩ (by simp only;omega) (h4:=?_)
    simp[obOf,e1,renL_strR,strR,List.take_of_length_le]
   ·rw[if_neg hxc]at hd
    have e3:¬ ((x.toNat:Int)=c.toNat):=fun h=>hxc (UInt8.toNat_inj.1 (by omega))
    simp -implicitDefEqProofs [h0,h1',hlt,f0,f1,e3]
    have e4:List.take (i+1-fr) (List.drop fr s)=List.take (i-fr) (List.drop fr s)++[x]:=by
     rw[show i+1-fr=i-fr+1 by omega]
     exact takeS (by rw[List.getElem?_drop,show fr+(i-fr)=i by omega];exact f1)
    refine nx (i+1,fr,ps) [(900,900)] ⟨by simp only;omega,.inl ⟨by simp only;omega,by simp only;omega,by simp only;rw[e4];exact hd⟩⟩ (by simp only;omega) (h4:=?_)
    simp[obOf,e1,renL_strR]
 ·subst hi
  have h0:¬ ((s.length:Int)+1)≤s.length:=by omega
  simp -implicitDefEqProofs [h0]
  exact⟨by rw[hd],by rw[hd]⟩
theorem scutC (s:List UInt8) (c:UInt8) (hs:s.length≤1048576):CV prog 192 [.str s,.int .u8 (c.toNat:Int)] (.lst 1 ((cutR c s []).map strR)):=by
 refine CV.of_frz (scutO s c hs) (fun r L' hR=>?_)
 obtain⟨rfl,rfl⟩:=hR
 refine⟨by simp,by simp,?_,?_⟩
 ·simp[clR,strR,clL,clA]
 ·simp[frzAll,List.take_of_length_le]
  exact qbw _
def numB (n:Nat):List UInt8→Option Nat
 | []=>some n
 | x::r=>if x.toNat<48∨57<x.toNat then none else numB (n * 10+(x.toNat-48)) r
def numT (neg:Bool) (t:List UInt8):Int×Bool :=
 if t.length=0∨17<t.length∨(t.head?=some 48∧(1<t.length∨neg=true)) then (0,false) else
 match numB 0 t with
 | none=>(0,false)
 | some n=>(if neg=true then -(n:Int) else n,true)
def snumB (s:List UInt8):Int×Bool:=if s.head?=some 45 then numT true s.tail else numT false s
theorem snumC (s:List UInt8) (hs:s.length≤1048576):CV prog 283 [.str s] (.tup [.int .i64 (snumB s).1,.bool (snumB s).2]):=by
 obtain⟨R,hR⟩:∃ R,snumB s=R:=⟨_,rfl⟩
 rw[hR]
 refine cvx func283 [] ntmps283 rfl rfl rfl ?_
 unfold snumB at hR
 cases s with
 | nil =>
  simp[numT]at hR
  simp -implicitDefEqProofs [← hR]
 | cons x r =>
  have hrl:List.take r.length r=r:=List.take_of_length_le (Nat.le_refl _)
  by_cases hx:x=45
  ·subst hx
   simp only[List.head?_cons,List.tail_cons,if_true]at hR
   unfold numT at hR
   by_cases hc:r.length=0∨17<r.length∨r.head?=some 48∧(1<r.length∨true=true)
   ·rw[if_pos hc]at hR
    simp -implicitDefEqProofs [hrl,← hR]
    cases r with
    | nil=>simp
    | cons y t =>
     intro _ g2
     refine⟨by simp,fun g3=>?_⟩
     exfalso
     simp at hc g2 g3
     rcases hc with h | h
     ·omega
     ·subst h
      exact g3 rfl
   ·rw[if_neg hc]at hR
    obtain⟨N,hN⟩:∃ N,numB 0 r=N:=⟨_,rfl⟩
    rw[hN]at hR
    cases r with
    | nil=>simp at hc
    | cons y t =>
     simp only[List.head?_cons,List.length_cons,Option.some.injEq,or_true,and_true,not_or]at hc
     have hy':¬ ((y.toNat:Int)=48):=fun h=>hc.2.2 (UInt8.toNat_inj.1 (by simpa using by omega))
     have h17:(t.length:Int)+1≤17:=by omega
     have h17':¬ 17<(t.length:Int)+1:=by omega
     simp -implicitDefEqProofs [hrl,hy',h17,h17']
     refine⟨fun _=>⟨by omega,fun _=>?_,fun h=>by omega⟩,fun h=>by omega⟩
     have hTl:(y::t).length≤17:=by simp;omega
     refine ev_lp (X:=Nat×Nat) [0,4,5,6] [] (fun w=>[(6,.int .i64 w.1),(5,.int .i64 w.2)]) (fun _=>[]) (fun w=>(y::t).length-w.1) (fun w=>w.1≤(y::t).length∧w.2<10 ^ w.1∧numB w.2 ((y::t).drop w.1)=N) (0,0) ⟨by omega,by simp,hN⟩ ?_
     rintro⟨i,n⟩ ⟨hi,hn,hd⟩
     simp only at hi hn hd
     have hp:10 ^ i≤10 ^ 17:=Nat.pow_le_pow_right (by omega) (by omega)
     cases hr:(y::t).drop i with
     | nil =>
      have:=dropn hr
      rw[hr,numB]at hd
      have hie:i=(y::t).length:=by omega
      rw[← hd]at hR
      have w0:=i64w (-(n:Int)) (by omega) (by omega)
      simp -implicitDefEqProofs [hie,w0,← hR]
     | cons z q =>
      obtain⟨g1,g0,g2,g3⟩:=dropc hr
      rw[hr,numB]at hd
      have e2:=i64w ((i:Int)+1) (by omega) (by omega)
      have hz:=z.toNat_lt
      have g1':(i:Int)<(t.length:Int)+1:=by simp at g1;omega
      by_cases hbad:z.toNat<48∨57<z.toNat
      ·rw[if_pos hbad]at hd
       rw[← hd]at hR
       simp -implicitDefEqProofs [g1',g1,g0,g2,← hR]
       intros
       omega
      ·rw[if_neg hbad]at hd
       have w1:=i64w ((n:Int) * 10) (by omega) (by omega)
       have w2:IntKind.u8.wrap ((z.toNat:Int)-48)=(z.toNat:Int)-48:=by
        show((z.toNat:Int)-48) % 256=_
        omega
       have w3:=i64w ((z.toNat:Int)-48) (by omega) (by omega)
       have w4:=i64w ((n:Int) * 10+((z.toNat:Int)-48)) (by omega) (by omega)
       have b1:¬ ((z.toNat:Int)<48):=by omega
       have b2:¬ (57<(z.toNat:Int)):=by omega
       simp -implicitDefEqProofs [g1',g1,g0,g2,b1,b2,e2,w1,w2,w3,w4]
       have c1:((z.toNat-48:Nat):Int)=(z.toNat:Int)-48:=by omega
       have hps:10 ^ (i+1)=10 ^ i * 10:=Nat.pow_succ ..
       refine nx (i+1,n * 10+(z.toNat-48)) [] ⟨by simp only;omega,by simp only;omega,by simp only[g3];exact hd⟩ (by simp only;omega) (h4:=?_)
       simp[e2,w1,w2,w3,w4,c1]
  ·have hx':¬ ((x.toNat:Int)=45):=fun h=>hx (UInt8.toNat_inj.1 (by simpa using by omega))
   simp only[List.head?_cons,Option.some.injEq,hx,if_false]at hR
   unfold numT at hR
   by_cases hc:(x::r).length=0∨17<(x::r).length∨(x::r).head?=some 48∧(1<(x::r).length∨false=true)
   ·rw[if_pos hc]at hR
    simp -implicitDefEqProofs [hrl,hx',← hR]
    intro _ g2
    simp only[List.length_cons,List.head?_cons,Option.some.injEq,Bool.false_eq_true,or_false]at hc
    refine⟨fun g3 g4=>?_,fun g3=>?_⟩
    ·exfalso
     omega
    ·exfalso
     rcases hc with h | h | ⟨h,_⟩
     ·omega
     ·omega
     ·subst h
      exact g3 rfl
   ·rw[if_neg hc]at hR
    obtain⟨N,hN⟩:∃ N,numB 0 (x::r)=N:=⟨_,rfl⟩
    rw[hN]at hR
    simp only[List.head?_cons,List.length_cons,Option.some.injEq,Bool.false_eq_true,or_false,not_or,not_and]at hc
    have h17:(r.length:Int)+1≤17:=by omega
    have h17':¬ 17<(r.length:Int)+1:=by omega
    have hTl:(x::r).length≤17:=by simp;omega
    simp -implicitDefEqProofs [hrl,hx',h17,h17']
    refine⟨fun _=>⟨fun g=>⟨fun _=>?_,fun h=>absurd (hc.2.2 (UInt8.toNat_inj.1 (by simpa using by omega))) (by omega)⟩,fun g=>?_⟩,fun h=>by omega⟩
    all_goals
     refine ev_lp (X:=Nat×Nat) [0,4,5,6] [] (fun w=>[(6,.int .i64 w.1),(5,.int .i64 w.2)]) (fun _=>[]) (fun w=>(x::r).length-w.1) (fun w=>w.1≤(x::r).length∧w.2<10 ^ w.1∧numB w.2 ((x::r).drop w.1)=N) (0,0) ⟨by omega,by simp,hN⟩ ?_
     rintro⟨i,n⟩ ⟨hi,hn,hd⟩
     simp only at hi hn hd
     have hp:10 ^ i≤10 ^ 17:=Nat.pow_le_pow_right (by omega) (by omega)
     cases hr:(x::r).drop i with
     | nil =>
      have:=dropn hr
      rw[hr,numB]at hd
      have hie:i=(x::r).length:=by omega
      rw[← hd]at hR
      have w0:=i64w (-(n:Int)) (by omega) (by omega)
      simp -implicitDefEqProofs [hie,w0,hx',← hR]
     | cons z q =>
      obtain⟨g1,g0,g2,g3⟩:=dropc hr
      rw[hr,numB]at hd
      have e2:=i64w ((i:Int)+1) (by omega) (by omega)
      have hz:=z.toNat_lt
      have g1':(i:Int)<(r.length:Int)+1:=by simp at g1;omega
      by_cases hbad:z.toNat<48∨57<z.toNat
      ·rw[if_pos hbad]at hd
       rw[← hd]at hR
       simp -implicitDefEqProofs [g1',g1,g0,g2,← hR]
       intros
       omega
      ·rw[if_neg hbad]at hd
       have w1:=i64w ((n:Int) * 10) (by omega) (by omega)
       have w2:IntKind.u8.wrap ((z.toNat:Int)-48)=(z.toNat:Int)-48:=by
        show((z.toNat:Int)-48) % 256=_
        omega
       have w3:=i64w ((z.toNat:Int)-48) (by omega) (by omega)
       have w4:=i64w ((n:Int) * 10+((z.toNat:Int)-48)) (by omega) (by omega)
       have b1:¬ ((z.toNat:Int)<48):=by omega
       have b2:¬ (57<(z.toNat:Int)):=by omega
       simp -implicitDefEqProofs [g1',g1,g0,g2,b1,b2,e2,w1,w2,w3,w4]
       have c1:((z.toNat-48:Nat):Int)=(z.toNat:Int)-48:=by omega
       have hps:10 ^ (i+1)=10 ^ i * 10:=Nat.pow_succ ..
       refine nx (i+1,n * 10+(z.toNat-48)) [] ⟨by simp only;omega,by simp only;omega,by simp only[g3];exact hd⟩ (by simp only;omega) (h4:=?_)
       simp[e2,w1,w2,w3,w4,c1]
theorem cutR_pos (c:UInt8):∀ (s cur:List UInt8),0<(cutR c s cur).length
 | [],cur=>by simp[cutR]
 | x::r,cur=>by
  unfold cutR
  split
  ·simp
  ·exact cutR_pos c r _
theorem qbi (c:UInt8):∀ (s cur:List UInt8),∀ t∈cutR c s cur,t.length≤cur.length+s.length
 | [],cur,t,h=>by
  simp only[cutR,List.mem_singleton]at h
  subst h
  simp
 | x::r,cur,t,h=>by
  unfold cutR at h
  split at h
  ·rcases List.mem_cons.1 h with rfl | h
   ·simp
   ·have:=qbi c r [] t h
    simp at this ⊢
    omega
  ·have:=qbi c r _ t h
   simp at this ⊢
   omega
theorem cutR_num (c:UInt8):∀ (s cur:List UInt8),(cutR c s cur).length≤s.length+1
 | [],cur=>by simp[cutR]
 | x::r,cur=>by
  unfold cutR
  split
  ·have:=cutR_num c r []
   simp
   omega
  ·have:=cutR_num c r (cur++[x])
   simp
   omega
theorem openB_len (s:List UInt8):(openB s).1.length≤s.length:=by
 unfold openB
 split
 ·simp
 ·split <;> simp
end Go.Av.F
end
