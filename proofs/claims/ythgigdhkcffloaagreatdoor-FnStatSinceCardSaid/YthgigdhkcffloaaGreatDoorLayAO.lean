/- Lemmas for the proof, no statement of the seat; no conditions. -/
import Derived.Test.YthgigdhkcffloaaGreatDoorLayAN
import Derived.Shelf.Strings.Builder1
import Derived.Shelf.Strings.Builder2
import Derived.Shelf.Strings.OnBuilder
import Derived.Shelf.Small.Bits
import Derived.Shelf.Utf8.RuneCount
import Derived.Shelf.Strconv.Atoi
import Derived.Shelf.Strconv.Itoa0
import Derived.Shelf.Strconv.Itoa1
import Derived.Shelf.LaysM
import Derived.Shelf.Strconv.Itoa2
import Derived.Shelf.Strconv.Itoa3
import Derived.Shelf.Strconv.AtoiErrFast
import Derived.Shelf.Strconv.ParseIntEmpty
import Derived.Shelf.Strconv.AtoiFail
import Derived.Shelf.Strconv.Clone
import Derived.Shelf.Strconv.SyntaxError
import Derived.Shelf.LaysC
import Derived.Shelf.Strconv.ToError
import Derived.Shelf.Strconv.Lower
import Derived.Shelf.Strconv.ParseUint10
import Derived.Shelf.Strconv.ParseUint10Empty
import Derived.Shelf.Strconv.ParseUint10Any
import Derived.Shelf.Strconv.ParseInt10
import Derived.Shelf.Strconv.AtoiLong
import Derived.Shelf.Strconv.AtoiInnerAll
import Derived.Shelf.Strconv.RangeError
import Derived.Shelf.Strconv.ToErrorRange
import Derived.Shelf.Strconv.AtoiAll
import Derived.Shelf.Strings.Search2
import Derived.Shelf.Strings.Search3
import Derived.Shelf.Strings.Count
import Derived.Shelf.Sort.Plain
import Derived.Ground.Names2Prog
import Derived.Shelf.Slices.Clone
import Derived.Shelf.Slices.CompactI
import Derived.Shelf.Slices.SearchI
import Derived.Shelf.Slices.Cells
import Derived.Shelf.Slices.Empties
import Derived.Ground.SlgnProg
import Derived.Shelf.SlicesE.Clone
import Derived.Shelf.Small.Strs
import Derived.Shelf.Strings.Search1
import Derived.Shelf.Unicode.Decode
import Derived.Shelf.Unicode.DecodeAny
import Derived.Shelf.Unicode.DecodeLast
import Derived.Test.YthgigdhkcffloaaGreatDoorProg
set_option linter.unusedSimpArgs false
set_option linter.unusedVariables false
set_option linter.unnecessarySimpa false
set_option maxRecDepth 100000
section
namespace Go.Av.F
open Go Go.Av Go.Proofs Go.Proofs.Tryz
structure CoT (c:CO):Prop where
 sets:c.sets.length≤1048576
 ddt:c.ddt.length≤1048576
 parts:c.parts.length≤1048576
 safe:c.safe.length≤1048576
 m8:∀ s∈c.sets,s.map.length=8
 nm:∀ s∈c.sets,s.name.length≤1048576∧s.frm.length≤1048576
def qah (c:CO):Bool:=decide (0≤c.txg) && decide (c.txg≤1000000) && qaf c.ddt && decide (c.parts.length≤8) && qbq 12 c.safe && decide (0≤c.logn) && decide (c.logn≤8) &&
 c.sets.all csOkB && c.parts.all qbb && qbe (c.sets.map csB) && cntOkB c && sumOkB c
theorem csOk_nm {s:CS} (h:csOkB s=true):s.name.length≤6∧s.frm.length≤6:=by
 simp only[csOkB,Bool.and_eq_true,Bool.or_eq_true,nameB,decide_eq_true_eq,List.isEmpty_iff]at h
 refine⟨h.1.1.1.1.2,?_⟩
 rcases h.1.1.1.2 with h | h
 ·simp[h]
 ·exact h.2
theorem bkG_cs {l:List CS} (h:∀ s∈l,csOkB s=true):BkG (l.map csB):=by
 intro b hb
 obtain⟨s,hs,rfl⟩:=List.mem_map.1 hb
 have:=csOk_nm (h s hs)
 simp[csB];omega
theorem sBookOk (bs:List BS) (hb:BkG bs) (hl:bs.length≤1048576):CV prog 43 [bk bs] (.bool (qbe bs)):=cv_of (specOkC bs hb (by omega)) (hca:=by simp[bk])
theorem iBookOk (bs:List BS) (hb:BkG bs) (hl:bs.length≤1048576):CV prog 36 [bk bs] (.bool (qbe bs)):=cv_of (implOkC bs hb (by omega)) (hca:=by simp[bk])
theorem sCoreOk (c:CO) (h:CoT c):CV prog 21 [.agg c.row] (.bool (qah c)):=by
 obtain⟨R,hR⟩:∃ R,qah c=R:=⟨_,rfl⟩
 rw[hR]
 refine cvx func21 [] ntmps21 rfl rfl rfl ?_
 simp -implicitDefEqProofs
 repeat' first
  | (refine(sDdtOkC c.ddt h.ddt).call ?_;simp -implicitDefEqProofs)
  | (refine(placesC c.safe h.safe).call ?_;simp -implicitDefEqProofs)
  | with_reducible intro _
  | with_reducible refine And.intro ?_ ?_
 all_goals try (grind[qah];done)
 have hrest:qah c=(c.sets.all csOkB && (c.parts.all qbb && (qbe (c.sets.map csB) && cntOkB c && sumOkB c))):=by grind[qah]
 rw[hrest]at hR
 have hd:qaf c.ddt=true:=by assumption
 have hpl:(c.parts.length:Int)≤8:=by assumption
 have hs1:=h.sets
 refine ev_lp (X:=Nat) [1,3] [(1,1)] (fun i=>[(3,.int .i64 i)]) (fun _=>[]) (fun i=>c.sets.length-i) (fun i=>i≤c.sets.length∧(∀ s∈c.sets.take i,csOkB s=true)∧((c.sets.drop i).all csOkB && (c.parts.all qbb && (qbe (c.sets.map csB) && cntOkB c && sumOkB c)))=R) 0 (by simpa using hR) ?_
 rintro i ⟨hi,hok,ha⟩
 cases hr:c.sets.drop i with
 | nil =>
  have:=dropn hr
  rw[hr]at ha
  have hie:i=c.sets.length:=by omega
  have hok':∀ s∈c.sets,csOkB s=true:=by rw[List.take_of_length_le (by omega)]at hok;exact hok
  simp -implicitDefEqProofs [hie]
  refine ev_lp (X:=Nat) [1,4] [(1,1)] (fun i=>[(4,.int .i64 i)]) (fun _=>[]) (fun i=>c.parts.length-i) (fun i=>i≤c.parts.length∧((c.parts.drop i).all qbb && (qbe (c.sets.map csB) && cntOkB c && sumOkB c))=R) 0 (by simpa using ha) ?_
  rintro j ⟨hj,hb⟩
  cases hq:c.parts.drop j with
  | nil =>
   have:=dropn hq
   rw[hq]at hb
   have hje:j=c.parts.length:=by omega
   simp -implicitDefEqProofs [hje]
   refine(sNamesC c h.sets h.m8).call ?_
   simp -implicitDefEqProofs
   refine(sBookOk _ (bkG_cs hok') (by simpa using h.sets)).call ?_
   simp -implicitDefEqProofs
   repeat' first
    | (refine(countsC c h.sets h.m8 hd).call ?_;simp -implicitDefEqProofs)
    | (refine(sumsC c h.sets (ddt_ec hd).1 h.m8).call ?_;simp -implicitDefEqProofs)
    | with_reducible intro _
    | with_reducible refine And.intro ?_ ?_
   all_goals grind
  | cons x r =>
   obtain⟨h1,e0,e1,h3⟩:=dropc hq
   rw[hq]at hb
   have e2:=i64w ((j:Int)+1) (by omega) (by omega)
   simp -implicitDefEqProofs [h1,e0]
   refine(sPtrOkC x).call ?_
   simp -implicitDefEqProofs [h1,e0,e2]
   repeat' first
    | with_reducible intro _
    | with_reducible refine And.intro ?_ ?_
   all_goals first
    | exact nx (j+1) [(1,1)] (by grind[qbb])
    | grind[qbb]
 | cons x r =>
  obtain⟨h1,e0,e1,h3⟩:=dropc hr
  have hxm:=List.mem_of_getElem? e1
  have hrl:=qay x (h.m8 x hxm)
  have ht:List.take 31 x.row=x.row:=List.take_of_length_le (by omega)
  rw[hr]at ha
  have e2:=i64w ((i:Int)+1) (by omega) (by omega)
  simp -implicitDefEqProofs [h1,e0,hrl,ht]
  refine(sSetC x (h.m8 x hxm) (h.nm x hxm).1 (h.nm x hxm).2).call ?_
  simp -implicitDefEqProofs [e2]
  repeat' first
   | with_reducible intro _
   | with_reducible refine And.intro ?_ ?_
  all_goals first
   | exact nx (i+1) [(1,1)] (by rw[takeS e1];grind)
   | grind
theorem coreOk1 (p:PT):CV prog 31 [.agg p.row] (.bool (!qbb p)):=by
 refine cvx func31 [] ntmps31 rfl rfl rfl ?_
 simp -implicitDefEqProofs
 refine(realC p).call ?_
 simp -implicitDefEqProofs
theorem coreOk2 (s:CS) (h8:s.map.length=8) (hn:s.name.length≤1048576) (hf:s.frm.length≤1048576):CV prog 34 [.agg s.row] (.bool (!csOkB s)):=by
 have hl:=qay s h8
 have ht:List.take 31 s.row=s.row:=List.take_of_length_le (by omega)
 refine cvx func34 [] ntmps34 rfl rfl rfl ?_ (hca:=by simp[cs_cl])
 simp -implicitDefEqProofs [hl,ht]
 refine(iSetC s h8 hn hf).call ?_
 simp -implicitDefEqProofs
def ptZB (l:List DE) (p:PT):Bool:=decide (p.pa=0) || ptSumB l p
def cntRow (c:CO) (L:List PT) (e:DE):List AV:=[.int .i64 (ptN e.ea L)]
theorem ptN_app (a:Int) (L:List PT) (p:PT):ptN a (L++[p])=ptN a L+if p.pa=a then 1 else 0:=by
 simp[ptN,List.countP_append,List.countP_cons]
theorem cnt_same (c:CO) (L:List PT) (p:PT) (h:∀ e∈c.ddt,e.ea≠p.pa):c.ddt.map (cntRow c (L++[p]))=c.ddt.map (cntRow c L):=by
 refine List.map_congr_left fun e he=>?_
 have:=h e he
 simp[cntRow,ptN_app,Ne.symm this]
theorem cnt_set (c:CO) (L:List PT) (p:PT) (hd:qaf c.ddt=true) {k:Nat} {e:DE} (hk:c.ddt[k]?=some e) (he:e.ea=p.pa) :
  (c.ddt.map (cntRow c L)).set k [.int .i64 ((ptN p.pa L:Int)+1)]=c.ddt.map (cntRow c (L++[p])):=by
 simp only[qaf,Bool.and_eq_true]at hd
 have hup:=(qch hd.2).2
 apply List.ext_getElem?
 intro i
 rw[List.getElem?_set,List.getElem?_map,List.getElem?_map]
 by_cases hi:k=i
 ·subst hi
  obtain⟨hl,hk0⟩:=List.getElem?_eq_some_iff.1 hk
  simp[hl,hk0,cntRow,ptN_app,he]
 ·rw[if_neg hi]
  cases hx:c.ddt[i]? with
  | none=>rfl
  | some x =>
   have:x.ea≠p.pa:=by
    rw[← he]
    rcases Nat.lt_or_gt_of_ne hi with h | h
    ·have:=hup k i e x h hk hx;omega
    ·have:=hup i k x e h hx hk;omega
   simp[cntRow,ptN_app,Ne.symm this]
theorem cs_map24 (s:CS) (h8:s.map.length=8):List.take 24 (List.drop 3 s.row)=s.map.flatMap PT.row:=by
 obtain⟨n,k,f,m,h,d⟩:=s
 simp only at h8
 match m,h8 with
 | [p0,p1,p2,p3,p4,p5,p6,p7],_=>rfl
theorem flat_at {l:List PT} {i:Nat} {p:PT} (h:l[i]?=some p):List.take 3 (List.drop (i * 3) (l.flatMap PT.row))=p.row:=by
 induction l generalizing i with
 | nil=>simp at h
 | cons a l ih =>
  cases i with
  | zero=>simp at h;subst h;simp
  | succ i =>
   rw[← ih (i:=i) (by simpa using h)]
   simp[show(i+1) * 3=i * 3+1+1+1 by omega]
@[simp] theorem renL_cnt (ρ:Nat→Option Plc) (c:CO) (L:List PT):renL ρ ∘ cntRow c L=cntRow c L:=by
 funext e;simp[cntRow]
theorem cnt_nil (c:CO):c.ddt.map (cntRow c [])=List.replicate c.ddt.length [.int .i64 0]:=by
 have:cntRow c []=fun _=>[.int .i64 0]:=by funext e;simp[cntRow,ptN]
 rw[this,List.map_const']
@[simp] theorem renL_pts (ρ:Nat→Option Plc) (l:List PT):renL ρ (l.flatMap PT.row)=l.flatMap PT.row:=renL_closed.renL_closedL ρ _ (clL_pts l)
theorem sum3 {l:List PT} (h:l.length=8):(List.map (fun _=>3) l).sum=24:=by
 rw[List.map_const',h];rfl
theorem cs_pt {s:CS} (h:csOkB s=true) {p:PT} (hp:p∈s.map):ptOkB p=true∧0≤p.pa∧p.pa<120:=by
 simp only[csOkB,Bool.and_eq_true,List.all_eq_true]at h
 have:=h.2 p hp
 refine⟨this,?_⟩
 unfold ptOkB at this
 split at this
 ·omega
 ·simp at this;omega
theorem sum_one {l:List DE} {q:Int} (h:ddtR q l=true) (hq:0≤q) (L:List PT) (hL:∀ p∈L,0≤p.pa∧(0<p.pa→∃ e∈l,e.ea=p.pa)):((l.map fun e=>ptN e.ea L).sum)=nnN L:=by
 induction L with
 | nil =>
  clear h hL
  induction l with
  | nil=>rfl
  | cons e l ih=>simpa [ptN,nnN]using ih
 | cons p L ih =>
  have ih':=ih fun p hp=>hL p (List.mem_cons_of_mem _ hp)
  obtain⟨hp0,hpe⟩:=hL p (by simp)
  have key:∀ (l:List DE) (q:Int),0≤q→ddtR q l=true→(l.map fun e=>(if p.pa=e.ea then 1 else 0)).sum=if ∃ e∈l,e.ea=p.pa then 1 else 0:=by
   intro l
   induction l with
   | nil=>intro q _ _;simp
   | cons e l ihl =>
    intro q hq h
    have hup:=qch h
    simp only[ddtR,Bool.and_eq_true,decide_eq_true_eq]at h
    have h2:=ihl e.ea (by omega) h.2
    simp only[List.map_cons,List.sum_cons,h2]
    by_cases he:p.pa=e.ea
    ·have:¬ ∃ x∈l,x.ea=p.pa:=by
      rintro⟨x,hx,hxe⟩
      have:=((qch h.2).1 x hx).1;omega
     simp[he]at this ⊢
     exact this
    ·have:e.ea≠p.pa:=fun h=>he h.symm
     simp[he,this]
  have hk:=key l q hq h
  have hadd:∀ (l:List DE),(l.map fun e=>ptN e.ea (p::L)).sum=(l.map fun e=>(if p.pa=e.ea then 1 else 0)).sum+(l.map fun e=>ptN e.ea L).sum:=by
   intro l
   induction l with
   | nil=>rfl
   | cons e l ih=>simp only[List.map_cons,List.sum_cons];rw[ih,ptN_cons];omega
  rw[hadd,hk,ih',nnN_cons]
  congr 1
  by_cases h0:0<p.pa
  ·rw[if_pos (hpe h0),if_pos h0]
  ·rw[if_neg,if_neg h0]
   rintro⟨e,he,hee⟩
   have:=((qch h).1 e he).1;omega
theorem sumEc_eq {l:List DE} {L:List PT} (h:∀ e∈l,(ptN e.ea L:Int)=e.ec):sumEc l=((l.map fun e=>ptN e.ea L).sum:Nat):=by
 induction l with
 | nil=>rfl
 | cons e l ih =>
  have h1:=h e (by simp)
  have h2:=ih fun e he=>h e (List.mem_cons_of_mem _ he)
  simp only[sumEc,List.map_cons,List.sum_cons,h2];omega
theorem ptN_refs {l:List DE} {q:Int} (h:ddtR q l=true) (hq:0≤q) (L:List CS) {e:DE} (he:e∈l):refsB e.ea L=ptN e.ea (qan L):=by
 have:=((qch h).1 e he).1
 unfold refsB;rw[if_pos (by omega)]
theorem cntSum (c:CO) (h:CoT c) (hd:qaf c.ddt=true) (hs:∀ s∈c.sets,csOkB s=true) :
  (cntOkB c && sumOkB c)=((qan c.sets).all (ptZB c.ddt) && c.ddt.all fun e=>decide ((ptN e.ea (qan c.sets):Int)=e.ec)):=by
 have hd2:=hd
 simp only[qaf,Bool.and_eq_true,decide_eq_true_eq]at hd2
 have hpa:∀ p∈qan c.sets,0≤p.pa:=fun p hp=>by
  obtain⟨s,hs1,hs2⟩:=List.mem_flatMap.1 hp
  exact(cs_pt (hs s hs1) hs2).2.1
 have e1:(qan c.sets).all (ptZB c.ddt)=sumOkB c:=by
  unfold sumOkB
  rw[Bool.eq_iff_iff,List.all_eq_true,List.all_eq_true]
  refine forall_congr' fun p=>forall_congr' fun hp=>?_
  have:=hpa p hp
  simp only[ptZB,Bool.or_eq_true,decide_eq_true_eq]
  constructor
  ·rintro(h | h)
   ·simp[ptSumB,h]
   ·exact h
  ·exact .inr
 have e2:(c.ddt.all fun e=>decide ((refsB e.ea c.sets:Int)=e.ec))=(c.ddt.all fun e=>decide ((ptN e.ea (qan c.sets):Int)=e.ec)):=by
  rw[Bool.eq_iff_iff,List.all_eq_true,List.all_eq_true]
  refine forall_congr' fun e=>forall_congr' fun he=>?_
  rw[ptN_refs hd2.2 (by omega) _ he]
 rw[e1]
 unfold cntOkB
 rw[e2]
 cases h1:sumOkB c with
 | false=>simp
 | true =>
  cases h2:(c.ddt.all fun e=>decide ((ptN e.ea (qan c.sets):Int)=e.ec))with
  | false=>simp
  | true =>
   have hL:∀ p∈qan c.sets,0≤p.pa∧(0<p.pa→∃ e∈c.ddt,e.ea=p.pa):=fun p hp=>by
    refine⟨hpa p hp,fun h0=>?_⟩
    have:=List.all_eq_true.1 h1 p hp
    simp only[ptSumB,Bool.or_eq_true,decide_eq_true_eq,Bool.and_eq_true]at this
    rcases this with h | h
    ·omega
    ·obtain⟨e,he,hea⟩:=ddT_some h.1
     exact⟨e,List.mem_of_getElem? he,hea⟩
   have h3:=sum_one hd2.2 (by omega) _ hL
   have h4:=sumEc_eq (l:=c.ddt) (L:=qan c.sets) fun e he=>by simpa using List.all_eq_true.1 h2 e he
   simp[h4,h3,nnS]
theorem countsOkC (c:CO) (h:CoT c) (hd:qaf c.ddt=true) (hs:∀ s∈c.sets,csOkB s=true):CV prog 38 [.agg c.row] (.bool (cntOkB c && sumOkB c)):=by
 have hdd:=ddt_ec hd
 have hdl:=hdd.1
 have hs1:=h.sets
 obtain⟨F,hF⟩:∃ F,(c.ddt.all fun e=>decide ((ptN e.ea (qan c.sets):Int)=e.ec))=F:=⟨_,rfl⟩
 obtain⟨R,hR⟩:∃ R,((qan c.sets).all (ptZB c.ddt) && F)=R:=⟨_,rfl⟩
 have hfin:(cntOkB c && sumOkB c)=R:=by
  rw[← hR,← hF]
  exact cntSum c h hd hs
 rw[hfin]
 refine cvx func38 [(10,[zI 0,zI 1,zI 2,zI 3,zJ 4 [1] [],zJ 5 [] [1],zI 6,zI 7,zI 8,zJ 9 [] [1],zJ 10 [7] [1],zI 11,zI 12]),(18,[zI 0,zJ 1 [11] [],zJ 2 [] [11],zJ 3 [] [11],zJ 4 [15] [11],zJ 5 [15] [11],zI 6])] ntmps38 rfl rfl rfl ?_
 simp -implicitDefEqProofs
 refine⟨by omega,?_⟩
 refine ev_lo (X:=Nat) [1,3,17,18,19] [(1,1),(15,15)] (fun i=>[(19,.int .i64 i)]) (fun i=>[(1,⟨7,[c.row]⟩),(15,⟨1,c.ddt.map (cntRow c (qan (c.sets.take i)))⟩)]) (fun i=>c.sets.length-i)
  (fun i=>i≤c.sets.length∧((qan (c.sets.drop i)).all (ptZB c.ddt) && F)=R) 0 (by simpa using hR) ?_ (he:=by simp[qan,cnt_nil])
 rintro i ⟨hi,ha⟩
 cases hr:c.sets.drop i with
 | nil =>
  have:=dropn hr
  rw[hr]at ha
  have hie:i=c.sets.length:=by omega
  have ha':F=R:=by simpa [qan]using ha
  simp -implicitDefEqProofs [hie]
  refine ev_lp (X:=Nat) [3,61,62,63] [(15,15)] (fun i=>[(63,.int .i64 i)]) (fun _=>[]) (fun i=>c.ddt.length-i) (fun i=>i≤c.ddt.length∧((c.ddt.drop i).all fun e=>decide ((ptN e.ea (qan c.sets):Int)=e.ec))=R) 0 (by simp;rw[← ha',← hF]) ?_
  rintro j ⟨hj,hb⟩
  cases hq:c.ddt.drop j with
  | nil =>
   have:=dropn hq
   rw[hq]at hb
   have hje:j=c.ddt.length:=by omega
   simp -implicitDefEqProofs [hje]
   grind
  | cons e r =>
   obtain⟨h1,e0,e1,h3⟩:=dropc hq
   rw[hq]at hb
   have e2:=i64w ((j:Int)+1) (by omega) (by omega)
   simp -implicitDefEqProofs [h1,e0,e2,cntRow]
   repeat' first
    | with_reducible intro _
    | with_reducible refine And.intro ?_ ?_
   all_goals first
    | exact nx (j+1) [(15,15)] (by grind)
    | grind
 | cons x r =>
  obtain⟨h1,e0,e1,h3⟩:=dropc hr
  have hxm:=List.mem_of_getElem? e1
  have hx8:=h.m8 x hxm
  have hrl:=qay x hx8
  have ht:List.take 31 x.row=x.row:=List.take_of_length_le (by omega)
  have hm24:=cs_map24 x hx8
  rw[hr]at ha
  have ha':(x.map.all (ptZB c.ddt) && ((qan r).all (ptZB c.ddt) && F))=R:=by rw[← ha];simp[qan,Bool.and_assoc]
  have e2:=i64w ((i:Int)+1) (by omega) (by omega)
  simp -implicitDefEqProofs [h1,e0,hrl,ht,hm24]
  refine⟨oneA_cs x,?_⟩
  refine ev_lo (X:=Nat) [1,3,17,18,19,24,25] [(1,1),(15,15)] (fun j=>[(25,.int .i64 j)]) (fun j=>[(1,⟨7,[c.row]⟩),(15,⟨1,c.ddt.map (cntRow c (qan (c.sets.take i)++x.map.take j))⟩)]) (fun j=>8-j)
   (fun j=>j≤8∧((x.map.drop j).all (ptZB c.ddt) && ((qan r).all (ptZB c.ddt) && F))=R) 0 (by simpa using ha') ?_
  rintro j ⟨hj,hb⟩
  by_cases h2:j<8
  ·obtain⟨p,f1⟩:∃ p,x.map[j]?=some p:=⟨_,List.getElem?_eq_getElem (by omega)⟩
   rw[dropAt f1]at hb
   have e3:=i64w ((j:Int)+1) (by omega) (by omega)
   have h2':(j:Int)<8:=by omega
   have hfa:=flat_at f1
   obtain⟨hpo,hp0,hp1⟩:=cs_pt (hs x hxm) (List.mem_of_getElem? f1)
   simp -implicitDefEqProofs [h2',hfa,sum3 hx8]
   refine⟨by omega,fun hz=>?_,fun hz=>?_⟩
   ·have hne:∀ e∈c.ddt,e.ea≠p.pa:=fun e he=>by
     simp only[qaf,Bool.and_eq_true]at hd
     have:=((qch hd.2).1 e he).1;omega
    exact nx (j+1) [(1,1),(15,15)] ⟨by omega,by simpa [ptZB,hz]using hb⟩ (h4:=by simp[e3,takeS f1,← List.append_assoc,cnt_same _ _ _ hne])
   ·refine(ddtPlaceC c.ddt p.pa hd (by omega)).call ?_
    cases hT:ddT c.ddt p.pa with
    | false =>
     have:ptZB c.ddt p=false:=by simp[ptZB,ptSumB,hT,hz];omega
     simp -implicitDefEqProofs
     grind
    | true =>
     obtain⟨e,he,hea⟩:=ddT_some hT
     obtain⟨hk,hk0⟩:=List.getElem?_eq_some_iff.1 he
     have hps:ptZB c.ddt p=(e.es == p.ps):=by simp[ptZB,ptSumB,hT,he,hz];intro;omega
     have hcl:=ptN_le p.pa (qan (c.sets.take i)++x.map.take j)
     have hpl:=pts_len (c.sets.take i) (fun s hs=>h.m8 s (List.mem_of_mem_take hs))
     simp only[List.length_append,List.length_take]at hcl hpl
     have e4:=i64w ((ptN p.pa (qan (c.sets.take i)++x.map.take j):Int)+1) (by omega) (by omega)
     have hcr:cntRow c (qan (c.sets.take i)++x.map.take j) e=[.int .i64 (ptN p.pa (qan (c.sets.take i)++x.map.take j))]:=by simp[cntRow,hea]
     simp -implicitDefEqProofs [hk,hk0,hcr,e4]
     exact⟨fun _=>by grind,fun _=>nx (j+1) [(1,1),(15,15)] ⟨by omega,by grind⟩ (h4:=by simp[e3,takeS f1,← List.append_assoc,← cnt_set c _ p hd he hea])⟩
  ·have:j=8:=by omega
   subst this
   simp -implicitDefEqProofs [e2]
   simp[← hx8]at hb
   refine nx (i+1) [(1,1),(15,15)] ⟨by omega,by rw[h3];grind⟩ (h4:=?_)
   have:qan (c.sets.take (i+1))=qan (c.sets.take i)++x.map.take 8:=by
    rw[takeS e1,List.take_of_length_le (l:=x.map) (by omega)];simp[qan]
   simp[this]
theorem iCoreOk (c:CO) (h:CoT c):CV prog 16 [.agg c.row] (.bool (qah c)):=by
  obtain⟨R,hR⟩:∃ R,qah c=R:=⟨_,rfl⟩
  rw[hR]
  have hany:(c.parts.any fun p=>!qbb p)=!(c.parts.all qbb):=by rw[List.not_all_eq_any_not]
  have hany2:(c.sets.any fun p=>!csOkB p)=!(c.sets.all csOkB):=by rw[List.not_all_eq_any_not]
  refine cvx func16 [] ntmps16 rfl rfl rfl ?_
  simp -implicitDefEqProofs
  repeat' first
    | (refine(withinC' ..).call ?_;simp -implicitDefEqProofs)
    | (refine(iDdtOkC c.ddt h.ddt).call ?_;simp -implicitDefEqProofs)
    | (refine(contPt (fun p=>!qbb p) _ c.parts (by omega) (fun x _=>coreOk1 x)).call ?_;simp -implicitDefEqProofs)
    | with_reducible intro _
    | with_reducible refine And.intro ?_ ?_
  all_goals try (grind[qah,wiB];done)
  have hd:qaf c.ddt=true:=by assumption
  have hsl:=h.safe
  have hs1:=h.sets
  have hrest:qah c=(qbq 12 c.safe && (c.sets.all csOkB && (qbe (c.sets.map csB) && (cntOkB c && sumOkB c)))):=by grind[qah,wiB]
  rw[hrest]at hR
  obtain⟨T,hT⟩:∃ T,(c.sets.all csOkB && (qbe (c.sets.map csB) && (cntOkB c && sumOkB c)))=T:=⟨_,rfl⟩
  rw[hT]at hR
  refine ev_lp (X:=Nat×Int) [1,33,34,35] [(1,1)] (fun x=>[(35,.int .i64 x.1)]) (fun _=>[]) (fun x=>c.safe.length-x.1)
     (fun x=>x.1≤c.safe.length∧(x.1=0→x.2=12)∧(∀ k,x.1=k+1→c.safe[k]?=some x.2)∧(qbq x.2 (c.safe.drop x.1) && T)=R) (0,12) (by simp[hR]) ?_
  rintro⟨i,q⟩ ⟨hi,h0,hp,hdd⟩
  simp only at hi h0 hp hdd
  cases hr:c.safe.drop i with
  | nil =>
    have:=dropn hr
    rw[hr]at hdd
    have hie:i=c.safe.length:=by omega
    have hTR:T=R:=by simpa [qbq]using hdd
    rw[hTR]at hT
    simp -implicitDefEqProofs [hie]
    refine(contCs (fun s=>!csOkB s) _ c.sets (by omega) h.m8 (fun x hx=>coreOk2 x (h.m8 x hx) (h.nm x hx).1 (h.nm x hx).2)).call ?_
    rw[hany2]
    cases hall:c.sets.all csOkB with
    | false =>
      simp -implicitDefEqProofs
      grind
    | true =>
      have hok:∀ s∈c.sets,csOkB s=true:=List.all_eq_true.1 hall
      simp -implicitDefEqProofs
      refine(frameC c h.sets h.m8).call ?_
      simp -implicitDefEqProofs
      refine(iBookOk _ (bkG_cs hok) (by simpa using h.sets)).call ?_
      simp -implicitDefEqProofs
      repeat' first
        | (refine(countsOkC c h hd hok).call ?_;simp -implicitDefEqProofs)
        | with_reducible intro _
        | with_reducible refine And.intro ?_ ?_
      all_goals grind
  | cons x r =>
    obtain⟨h1,e0,e1,h3⟩:=dropc hr
    rw[hr]at hdd
    have e2:=i64w ((i:Int)+1) (by omega) (by omega)
    by_cases hz:i=0
    · subst hz
      simp -implicitDefEqProofs [h1,e0]
      refine(withinC' ..).call ?_
      simp -implicitDefEqProofs
      repeat' first
        | with_reducible intro _
        | with_reducible refine And.intro ?_ ?_
      all_goals first
        | exact nx (1,x) [(1,1)] (by grind[qbq,wiB])
        | grind[qbq,wiB]
    · obtain⟨k,hk⟩:∃ k,i=k+1:=⟨i-1,by omega⟩
      have f1:=hp k hk
      have h1':k<c.safe.length:=by omega
      have f0:c.safe[k]=q:=by grind
      have e3:(i:Int)-1=k:=by omega
      have e4:=i64w (k:Int) (by omega) (by omega)
      have hpos:0<i:=by omega
      simp -implicitDefEqProofs [h1,e0]
      refine(withinC' ..).call ?_
      simp -implicitDefEqProofs [h1',f0,e2,e3,e4,hpos]
      repeat' first
        | with_reducible intro _
        | with_reducible refine And.intro ?_ ?_
      all_goals first
        | exact nx (i+1,x) [(1,1)] (by grind[qbq,wiB])
        | grind[qbq,wiB]
end Go.Av.F

end
section
namespace Go.Av.F
open Go Go.Av Go.Proofs Go.Proofs.Tryz
theorem ix_ev1 {α:Type} {row:α→List AV} {tS tE sz g:Nat} {o:Ob} (hT:RowT row tS tE sz) (p:α→Bool) (l:List α) (hl:l.length≤9000000) (hs:∀ x∈l,(row x).length=sz) (ho:clR o.els=true)
  (hg:∀ x∈l,CW prog g [.agg (row x),.ptr 1000 0 0] o (.bool (p x))) :
  ev prog ⟨19,[1000]⟩ (ixA tS tE) (retQ prog [.tmp 4] (fun r L'=>r=.int .i64 (ixR p 0 l)∧L'=[(1000,o)])) ⟨argT [.lst sz (l.map row),.fn g [.ptr 1000 0 0]],hpOf [(1000,o)],Us.of [1000]⟩:=by
 obtain⟨fs,b,z,hE⟩:=hT.E
 have hS:=hT.S
 have hro:∀ ρ,renOb ρ o=o:=fun ρ=>renOb_cl ho
 obtain⟨R,hR⟩:∃ R,ixR p 0 l=R:=⟨_,rfl⟩
 rw[hR]
 simp -implicitDefEqProofs [ixA,hS,hE]
 refine ev_lp (X:=Nat) [0,1,7,8] [(1000,1000)] (fun i=>[(8,.int .i64 i)]) (fun _=>[]) (fun i=>l.length-i) (fun i=>i≤l.length∧ixR p i (l.drop i)=R) 0 (by simp[hR]) ?_ (he:=by simp[hro])
 rintro i ⟨hi,hd⟩
 cases hr:l.drop i with
 | nil =>
  have:=dropn hr
  rw[hr]at hd
  have hie:i=l.length:=by omega
  simp -implicitDefEqProofs [hie,hro]
  grind[ixR]
 | cons x r =>
  obtain⟨h1,e0,e1,h3⟩:=dropc hr
  rw[hr]at hd
  have hx:=List.mem_of_getElem? e1
  have e2:=i64w ((i:Int)+1) (by omega) (by omega)
  have hrl:=hs x hx
  have ht:(row x).take sz=row x:=List.take_of_length_le (by omega)
  simp -implicitDefEqProofs [hS,hE,h1,e0,e1,hrl,ht,hro]
  refine(hg x hx).call 1000 (by simp) (by simp[mtL_cl _ (hT.cl x)]) ?_
  simp -implicitDefEqProofs [e2]
  exact⟨fun hp=>by grind[ixR],fun hp=>nx (i+1) [(1000,1000)] (by grind[ixR]) (h4:=by simp[hro])⟩
abbrev nmOb (name:List UInt8):Ob:=⟨1,[[.str name]]⟩
theorem namedF (name:List UInt8) (s:CS) (h8:s.map.length=8):CW prog 18 [.agg s.row,.ptr 1000 0 0] (nmOb name) (.bool (s.name == name)):=by
 have hl:=qay s h8
 refine cwx func18 [] ntmps18 rfl rfl rfl ?_
 simp -implicitDefEqProofs [hl]
theorem namedIx (name:List UInt8) (l:List CS) (hl:l.length≤9000000) (h8:∀ s∈l,s.map.length=8):CW prog 17 [.lst 31 (l.map CS.row),.fn 18 [.ptr 1000 0 0]] (nmOb name) (.int .i64 (ixR (fun s=>s.name == name) 0 l)):=by
 refine cwx func17 [] ntmps17 rfl rfl rfl ?_
 exact ix_ev1 rowCS _ l hl (fun x hx=>qay x (h8 x hx)) (by simp) fun x hx=>namedF name x (h8 x hx)
def zCS:CS:=⟨[],0,[],List.replicate 8 ⟨0,0,0⟩,⟨0,0,0⟩,false⟩
def setR (c:CO) (name:List UInt8):CS×Bool:=if qah c=true then match c.sets.find? (fun s=>s.name == name)with
 | some s=>(s,true)
 | none=>(zCS,false) else (zCS,false)
theorem ixR_find {α:Type} (p:α→Bool):∀ (l:List α) (i:Nat),(∃ k x,ixR p i l=((i+k:Nat):Int)∧l[k]?=some x∧l.find? p=some x)∨(ixR p i l=-1∧l.find? p=none)
 | [],i=>.inr ⟨rfl,rfl⟩
 | x::r,i=>by
  cases h:p x with
  | true=>exact .inl ⟨0,x,by simp[ixR,h],rfl,by simp[h]⟩
  | false =>
   rcases ixR_find p r (i+1)with⟨k,y,h1,h2,h3⟩ | ⟨h1,h2⟩
   ·exact .inl ⟨k+1,y,by simp[ixR,h,h1];omega,by simpa using h2,by simp[h,h3]⟩
   ·exact .inr ⟨by simp[ixR,h,h1],by simp[h,h2]⟩
theorem iNamedC (c:CO) (name:List UInt8) (h:CoT c):CV prog 11 [.agg c.row,.str name] (.tup [.agg (setR c name).1.row,.bool (setR c name).2]):=by
 have hs1:=h.sets
 refine cvx func11 [] ntmps11 rfl rfl rfl ?_ (hcv:=by simp[cs_cl])
 simp -implicitDefEqProofs
 refine(iCoreOk c h).call ?_
 cases hb:qah c with
 | true =>
  simp -implicitDefEqProofs
  refine(namedIx name c.sets (by omega) h.m8).call 3 (by simp) (by simp) ?_
  simp -implicitDefEqProofs
  rcases ixR_find (fun s:CS=>s.name == name) c.sets 0 with⟨k,x,h1,h2,h3⟩ | ⟨h1,h2⟩
  ·obtain⟨hk,hk0⟩:=List.getElem?_eq_some_iff.1 h2
   have hx8:=h.m8 x (List.mem_of_getElem? h2)
   have hrl:=qay x hx8
   have ht:List.take 31 x.row=x.row:=List.take_of_length_le (by omega)
   have hge:¬ ((k:Int)<0):=by omega
   simp -implicitDefEqProofs [h1,hk,hk0,h2,hrl,ht,hge,setR,hb,h3]
   exact oneA_cs x
  ·simp -implicitDefEqProofs [h1,setR,hb,h2]
   rfl
 | false =>
  simp -implicitDefEqProofs [setR,hb]
  rfl
theorem findAt {l:List CS} (name:List UInt8) (hS:Srt (l.map csB)):(atB (l.map csB) name=true→l[atP (l.map csB) name]?=l.find? (fun s=>s.name == name)∧(l.find? (fun s=>s.name == name)).isSome=true)∧(atB (l.map csB) name=false→l.find? (fun s=>s.name == name)=none):=by
 have hne:∀ (i j:Nat) (a b:CS),i<j→l[i]?=some a→l[j]?=some b→Op.bytesLess a.name b.name=true:=fun i j a b hij ha hb =>
  hS i j (csB a) (csB b) hij (by simp[ha]) (by simp[hb])
 have hirr:∀ a:List UInt8,Op.bytesLess a a=false:=fun a=>by rw[Go.Proofs.bytesLess_eq];simp
 have hun:∀ (i j:Nat) (a b:CS),l[i]?=some a→l[j]?=some b→a.name=b.name→i=j:=fun i j a b ha hb he=>by
  rcases Nat.lt_trichotomy i j with h | h | h
  ·have:=hne i j a b h ha hb;rw[he,hirr]at this;cases this
  ·exact h
  ·have:=hne j i b a h hb ha;rw[he,hirr]at this;cases this
 refine⟨fun h=>?_,fun h=>?_⟩
 ·obtain⟨t,ht,htn⟩:=atB_some h
  rw[List.getElem?_map,Option.map_eq_some_iff]at ht
  obtain⟨s,hs,rfl⟩:=ht
  rcases ixR_find (fun s:CS=>s.name == name) l 0 with⟨k,x,_,h2,h3⟩ | ⟨_,h2⟩
  ·have hxn:x.name=name:=by simpa using List.find?_some h3
   have:=hun _ _ s x hs h2 (by rw[hxn];exact htn)
   subst this
   rw[hs]at h2
   rw[hs,h3,h2];exact⟨rfl,rfl⟩
  ·have:=List.find?_eq_none.1 h2 s (List.mem_of_getElem? hs)
   simp at this
   exact absurd htn this
 ·rw[List.find?_eq_none]
  intro x hx hxn
  have hxn':x.name=name:=by simpa using hxn
  obtain⟨k,hk,rfl⟩:=List.mem_iff_getElem.1 hx
  have hk':l[k]?=some l[k]:=List.getElem?_eq_getElem hk
  have hp:atP (l.map csB) name=k:=(takeWhile_step (fun b:BS=>Op.bytesLess b.name name) (l.map csB) k (csB l[k]) (fun j hj y hy=>by
   rw[List.getElem?_map,Option.map_eq_some_iff]at hy
   obtain⟨z,hz,rfl⟩:=hy
   have:=hne j k z l[k] hj hz hk'
   rw[hxn']at this;exact this) (by simp[hk'])).2 (by show Op.bytesLess l[k].name name=false;rw[hxn',hirr])
  unfold atB at h
  rw[hp]at h
  simp[hk',csB,hxn']at h
theorem core_book {c:CO} (h:qah c=true):qbe (c.sets.map csB)=true:=by
 simp only[qah,Bool.and_eq_true]at h
 exact h.1.1.2
theorem core_srt {c:CO} (h:qah c=true):Srt (c.sets.map csB):=ibookOkB_srt (by rw[ok_eq];exact core_book h)
theorem sSet17C (c:CO) (name:List UInt8) (h:CoT c):CV prog 12 [.agg c.row,.str name] (.tup [.agg (setR c name).1.row,.bool (setR c name).2]):=by
 have hs1:=h.sets
 refine cvx func12 [] ntmps12 rfl rfl rfl ?_ (hcv:=by simp[cs_cl])
 simp -implicitDefEqProofs
 refine(sNamesC c h.sets h.m8).call ?_
 simp -implicitDefEqProofs
 refine(cv_of (atC (c.sets.map csB) name (by simp;omega)) (hca:=by simp[bk])).call ?_
 simp -implicitDefEqProofs
 refine(sCoreOk c h).call ?_
 cases hb:qah c with
 | true =>
  have hf:=findAt name (core_srt hb)
  cases hat:atB (c.sets.map csB) name with
  | true =>
   obtain⟨h1,h2⟩:=hf.1 hat
   obtain⟨x,hx⟩:=Option.isSome_iff_exists.1 h2
   rw[hx]at h1
   obtain⟨hk,hk0⟩:=List.getElem?_eq_some_iff.1 h1
   have hx8:=h.m8 x (List.mem_of_getElem? h1)
   have hrl:=qay x hx8
   have ht:List.take 31 x.row=x.row:=List.take_of_length_le (by omega)
   simp -implicitDefEqProofs [hk,hk0,h1,hrl,ht,setR,hb,hx]
   exact oneA_cs x
  | false =>
   simp -implicitDefEqProofs [setR,hb,hf.2 hat]
   rfl
 | false =>
  simp -implicitDefEqProofs [setR,hb]
  rfl
theorem core_ddt {c:CO} (h:qah c=true):qaf c.ddt=true:=by
 simp only[qah,Bool.and_eq_true]at h
 exact h.1.1.1.1.1.1.1.1.1.2
end Go.Av.F

end
section
namespace Go.Av.F
open Go Go.Av Go.Proofs Go.Proofs.Tryz
theorem setR8 (c:CO) (name:List UInt8) (h:CoT c):(setR c name).1.map.length=8:=by
 unfold setR
 split
 ·split
  ·rename_i s hs;exact h.m8 s (List.mem_of_find?_eq_some hs)
  ·rfl
 ·rfl
theorem setR_ok {c:CO} {name:List UInt8} (h:(setR c name).2=true):qah c=true∧(setR c name).1∈c.sets:=by
 unfold setR at h ⊢
 split at h
 ·rename_i hb
  rw[if_pos hb]
  split at h
  ·rename_i s hs;simp only[hs];exact⟨hb,List.mem_of_find?_eq_some hs⟩
  ·cases h
 ·cases h
theorem refersC (l:List PT) (a:Int) (h8:l.length=8):CV prog 13 [.agg (l.flatMap PT.row),.int .i64 a] (.int .i64 (ptN a l)):=by
 obtain⟨R,hR⟩:∃ R,ptN a l=R:=⟨_,rfl⟩
 have hRl:=ptN_le a l
 rw[hR]at hRl ⊢
 have hf:(l.flatMap PT.row).length=24:=by rw[flat3,h8]
 have ht:List.take 24 (l.flatMap PT.row)=l.flatMap PT.row:=List.take_of_length_le (by omega)
 refine cvx func13 [] ntmps13 rfl rfl rfl ?_ (hca:=by simp[clL_pts])
 simp -implicitDefEqProofs [sum3 h8,ht]
 refine ev_lp (X:=Nat×Nat) [1,5,8,9] [] (fun x=>[(9,.int .i64 x.1),(5,.int .i64 x.2)]) (fun _=>[]) (fun x=>8-x.1) (fun x=>x.1≤8∧x.2+ptN a (l.drop x.1)=R) (0,0) (by simp[hR]) ?_
 rintro⟨j,m⟩ ⟨hj,hm⟩
 simp only at hj hm
 by_cases h2:j<8
 ·obtain⟨p,f1⟩:∃ p,l[j]?=some p:=⟨_,List.getElem?_eq_getElem (by omega)⟩
  rw[dropAt f1,ptN_cons]at hm
  have e3:=i64w ((j:Int)+1) (by omega) (by omega)
  have e4:=i64w ((m:Int)+1) (by omega) (by omega)
  have h2':(j:Int)<8:=by omega
  have hfa:=flat_at f1
  simp -implicitDefEqProofs [h2',sum3 h8,hfa]
  refine⟨by omega,?_⟩
  repeat' first
   | with_reducible intro _
   | with_reducible refine And.intro ?_ ?_
  all_goals first
   | exact nx (j+1,m+1) [] (by simp only;grind) (h4:=by simp[e3,e4])
   | exact nx (j+1,m) [] (by simp only;grind) (h4:=by simp[e3,e4])
 ·have:j=8:=by omega
  subst this
  simp[ptN,← h8]at hm
  simp -implicitDefEqProofs [hm]
def cntD (c:CO) (name:List UInt8) (f:CS→DE→Bool):Nat:=if (setR c name).2=true then c.ddt.countP (f (setR c name).1) else 0
def holdF (s:CS) (e:DE):Bool:=decide (0<ptN e.ea s.map)
theorem iHoldC (c:CO) (name:List UInt8) (h:CoT c):CV prog 7 [.agg c.row,.str name] (.int .i64 (cntD c name holdF)):=by
 obtain⟨R,hR⟩:∃ R,cntD c name holdF=R:=⟨_,rfl⟩
 rw[hR]
 have hdl:=h.ddt
 have hs8:=setR8 c name h
 have hl:=qay _ hs8
 have hm24:=cs_map24 _ hs8
 refine cvx func7 [] ntmps7 rfl rfl rfl ?_
 simp -implicitDefEqProofs
 refine(iNamedC c name h).call ?_
 have hR1:(c.ddt.countP fun e=>(setR c name).2 && holdF (setR c name).1 e)=R:=by
  rw[← hR,cntD]
  cases hok:(setR c name).2 with
  | false=>simp
  | true=>simp
 have hec:(setR c name).2=true→∀ e∈c.ddt,1≤e.ec:=fun hok e he=>((ddt_ec (core_ddt (setR_ok hok).1)).2 e he).1
 have hRl:R≤c.ddt.length:=by rw[← hR1];exact List.countP_le_length
 simp -implicitDefEqProofs [hl]
 refine⟨oneA_cs _,?_⟩
 refine ev_lp (X:=Nat×Nat) [5,6,7,17,18,19] [(5,5)] (fun x=>[(19,.int .i64 x.1),(7,.int .i64 x.2)]) (fun _=>[]) (fun x=>c.ddt.length-x.1) (fun x=>x.1≤c.ddt.length∧x.2+(c.ddt.drop x.1).countP (fun e=>(setR c name).2 && holdF (setR c name).1 e)=R) (0,0) (by simp only[List.drop_zero];omega) ?_
 rintro⟨i,n⟩ ⟨hi,hs⟩
 simp only at hi hs
 cases hr:c.ddt.drop i with
 | nil =>
  have:=dropn hr
  rw[hr]at hs
  have hie:i=c.ddt.length:=by omega
  simp at hs
  simp -implicitDefEqProofs [hie,hs]
 | cons x r =>
  obtain⟨h1,e0,e1,h3⟩:=dropc hr
  have hxm:=List.mem_of_getElem? e1
  rw[hr,List.countP_cons]at hs
  have e2:=i64w ((i:Int)+1) (by omega) (by omega)
  have e3:=i64w ((n:Int)+1) (by omega) (by omega)
  cases hok:(setR c name).2 with
  | false =>
   simp -implicitDefEqProofs [h1,e0,e1,hok]
   exact nx (i+1,n) [(5,5)] ⟨by simp only;omega,by simp only[h3];simpa [hok]using hs⟩ (h4:=by simp[e2,e3,hok])
  | true =>
   have hxe:=hec hok x hxm
   simp -implicitDefEqProofs [h1,e0,e1,hl,hm24,hok]
   refine(refersC _ x.ea hs8).call ?_
   simp -implicitDefEqProofs
   repeat' first
    | with_reducible intro _
    | with_reducible refine And.intro ?_ ?_
   all_goals first
    | exact nx (i+1,n+1) [(5,5)] (by simp only;grind[holdF]) (h4:=by simp[e2,e3,hok])
    | exact nx (i+1,n) [(5,5)] (by simp only;grind[holdF]) (h4:=by simp[e2,e3,hok])
def sinceF (txg:Int) (p:PT):Bool:=decide (0<p.pa) && decide (txg<p.pb)
def sinceB (c:CO) (name:List UInt8) (txg:Int):Nat:=if (setR c name).2=true then (setR c name).1.map.countP (sinceF txg) else 0
theorem cs_at2 (s:CS) {i:Nat} {p:PT} (h:s.map[i]?=some p):s.row[3+i * 3+2]?=some (.int .i64 p.pb):=cs_cell s h (k:=2) (by omega)
theorem cs_at2' (s:CS) {i:Nat} {p:PT} (h:s.map[i]?=some p) (hk:3+i * 3+2<s.row.length):s.row[3+i * 3+2]=.int .i64 p.pb:=by
 have:=cs_at2 s h
 rw[List.getElem?_eq_getElem hk]at this
 exact Option.some.inj this
theorem sSinceC (c:CO) (name:List UInt8) (txg:Int) (h:CoT c):CV prog 6 [.agg c.row,.str name,.int .i64 txg] (.int .i64 (sinceB c name txg)):=by
 obtain⟨R,hR⟩:∃ R,sinceB c name txg=R:=⟨_,rfl⟩
 rw[hR]
 have hs8:=setR8 c name h
 have hl:=qay _ hs8
 refine cvx func6 [] ntmps6 rfl rfl rfl ?_
 simp -implicitDefEqProofs
 refine(sSet17C c name h).call ?_
 cases hok:(setR c name).2 with
 | false =>
  have hR0:R=0:=by rw[← hR,sinceB,hok];rfl
  simp -implicitDefEqProofs [hl]
  refine⟨oneA_cs _,?_⟩
  refine ev_lp (X:=Unit) [2,7,8,9,10] [(7,7)] (fun x=>[]) (fun _=>[]) (fun x=>0) (fun _=>True) () trivial ?_
  rintro _ _
  simp -implicitDefEqProofs [hR0]
 | true =>
  have hR1:(setR c name).1.map.countP (sinceF txg)=R:=by rw[← hR,sinceB,if_pos hok]
  have hRl:R≤8:=by rw[← hR1,← hs8];exact List.countP_le_length
  simp -implicitDefEqProofs [hl]
  refine⟨oneA_cs _,?_⟩
  refine ev_lp (X:=Nat×Nat) [2,7,8,9,10] [(7,7)] (fun x=>[(10,.int .i64 x.1),(9,.int .i64 x.2)]) (fun _=>[]) (fun x=>8-x.1) (fun x=>x.1≤8∧x.2+((setR c name).1.map.drop x.1).countP (sinceF txg)=R) (0,0) (by simp[hR1]) ?_
  rintro⟨i,n⟩ ⟨hi,hs⟩
  simp only at hi hs
  by_cases h2:i<8
  ·obtain⟨p,f1⟩:∃ p,(setR c name).1.map[i]?=some p:=⟨_,List.getElem?_eq_getElem (by omega)⟩
   rw[dropAt f1,List.countP_cons]at hs
   have e2:=i64w ((i:Int)+1) (by omega) (by omega)
   have e3:=i64w ((n:Int)+1) (by omega) (by omega)
   have h2':(i:Int)<8:=by omega
   have h2'':3+i * 3<31:=by omega
   have h3':3+i * 3+2<31:=by omega
   simp -implicitDefEqProofs [h2',hl,cs_at _ f1,cs_at' _ f1,cs_at2 _ f1,cs_at2' _ f1,h2'',h3']
   repeat' first
    | with_reducible intro _
    | with_reducible refine And.intro ?_ ?_
   all_goals first
    | exact nx (i+1,n+1) [(7,7)] (by simp only;grind[sinceF]) (h4:=by simp[e2,e3])
    | exact nx (i+1,n) [(7,7)] (by simp only;grind[sinceF]) (h4:=by simp[e2,e3])
  ·have:i=8:=by omega
   subst this
   simp[← hs8]at hs
   simp -implicitDefEqProofs [hs]
theorem iSinceC (c:CO) (name:List UInt8) (txg:Int) (h:CoT c):CV prog 5 [.agg c.row,.str name,.int .i64 txg] (.int .i64 (sinceB c name txg)):=by
 obtain⟨R,hR⟩:∃ R,sinceB c name txg=R:=⟨_,rfl⟩
 rw[hR]
 have hs8:=setR8 c name h
 have hl:=qay _ hs8
 have hm24:=cs_map24 _ hs8
 have hpa:∀ p∈(setR c name).1.map,((setR c name).2=true→0≤p.pa)∧((setR c name).2=false→p.pa=0):=fun p hp=>by
  refine⟨fun hok=>?_,fun hok=>?_⟩
  ·obtain⟨hb,hm⟩:=setR_ok hok
   simp only[qah,Bool.and_eq_true]at hb
   exact(cs_pt (List.all_eq_true.1 hb.1.1.1.1.2 _ hm) hp).2.1
  ·unfold setR at hok hp
   split at hok
   ·rename_i hb
    rw[if_pos hb]at hp
    split at hok
    ·cases hok
    ·rename_i hn
     simp only[hn,zCS]at hp
     rw[(List.mem_replicate.1 hp).2]
   ·rename_i hb
    rw[if_neg hb]at hp
    simp only[zCS]at hp
    rw[(List.mem_replicate.1 hp).2]
 have hR1:((setR c name).1.map.countP fun p=>decide (p.pa≠0) && decide (txg<p.pb))=R:=by
  rw[← hR,sinceB]
  cases hok:(setR c name).2 with
  | false =>
   simp
   intro p hp h0
   exact absurd ((hpa p hp).2 hok) h0
  | true =>
   simp only[if_true]
   refine List.countP_congr fun p hp=>?_
   have:=(hpa p hp).1 hok
   simp[sinceF];omega
 have hRl:R≤8:=by rw[← hR1,← hs8];exact List.countP_le_length
 refine cvx func5 [] ntmps5 rfl rfl rfl ?_
 simp -implicitDefEqProofs
 refine(iNamedC c name h).call ?_
 simp -implicitDefEqProofs [hl,hm24]
 refine⟨oneA_cs _,?_⟩
 refine ev_lp (X:=Nat×Nat) [2,9,19,20] [] (fun x=>[(20,.int .i64 x.1),(9,.int .i64 x.2)]) (fun _=>[]) (fun x=>8-x.1) (fun x=>x.1≤8∧x.2+((setR c name).1.map.drop x.1).countP (fun p=>decide (p.pa≠0) && decide (txg<p.pb))=R) (0,0) (by simp only[List.drop_zero];omega) ?_
 rintro⟨i,n⟩ ⟨hi,hs⟩
 simp only at hi hs
 by_cases h2:i<8
 ·obtain⟨p,f1⟩:∃ p,(setR c name).1.map[i]?=some p:=⟨_,List.getElem?_eq_getElem (by omega)⟩
  rw[dropAt f1,List.countP_cons]at hs
  have e2:=i64w ((i:Int)+1) (by omega) (by omega)
  have e3:=i64w ((n:Int)+1) (by omega) (by omega)
  have h2':(i:Int)<8:=by omega
  have hfa:=flat_at f1
  simp -implicitDefEqProofs [h2',sum3 hs8,hfa]
  refine⟨by omega,?_⟩
  repeat' first
   | with_reducible intro _
   | with_reducible refine And.intro ?_ ?_
  all_goals first
   | exact nx (i+1,n+1) [] (by simp only;grind) (h4:=by simp[e2,e3])
   | exact nx (i+1,n) [] (by simp only;grind) (h4:=by simp[e2,e3])
 ·have:i=8:=by omega
  subst this
  simp[← hs8]at hs
  simp -implicitDefEqProofs [hs]
end Go.Av.F

end
section
namespace Go.Av.F
open Go Go.Av Go.Proofs Go.Proofs.Tryz
attribute [simp] clL_strs
def opS (o:BO):Prop:=o.a.length≤1048576∧o.b.length≤1048576
theorem noL_bs (b:BS):noL b.row=true:=by simp[BS.row,noL_strs]
structure BK where
 sets:List BS
def BK.row (b:BK):List AV:=[.lst 11 (b.sets.map BS.row)]
end Go.Av.F

end
section
namespace Go.Av.F
open Go Go.Av Go.Proofs Go.Proofs.Tryz
def sumB:List UInt8→Nat→Nat
 | [],n=>n
 | x::r,n=>sumB r ((n * 257+x.toNat+1) % 65521)
theorem ssumC (s:List UInt8) (hs:s.length≤maxLen):CV prog 110 [.str s] (.int .i64 (sumB s (1+s.length % 997):Nat)):=by
 obtain⟨R,hR⟩:∃ R,sumB s (1+s.length % 997)=R:=⟨_,rfl⟩
 rw[hR]
 have hml:maxLen=9223372036854775807:=rfl
 have t1:(s.length:Int).tmod 997=(s.length:Int) % 997:=Int.tmod_eq_emod_of_nonneg (by omega)
 have w1:=i64w (1+(s.length:Int) % 997) (by omega) (by omega)
 refine cvx func110 [] ntmps110 rfl rfl rfl ?_
 simp -implicitDefEqProofs [t1,w1]
 refine ev_lp (X:=Nat×Nat) [0,3,4] [] (fun x=>[(4,.int .i64 x.1),(3,.int .i64 x.2)]) (fun _=>[]) (fun x=>s.length-x.1) (fun x=>x.1≤s.length∧x.2<65521∧sumB (s.drop x.1) x.2=R) (0,1+s.length % 997) (by simp[hR];omega) ?_
 rintro⟨i,n⟩ ⟨hi,hn,hd⟩
 simp only at hi hn hd
 cases hr:s.drop i with
 | nil =>
  have:=dropn hr
  rw[hr]at hd
  have hie:i=s.length:=by omega
  simp[sumB]at hd
  simp -implicitDefEqProofs [hie,hd]
 | cons x r =>
  obtain⟨h1,e0,e1,h3⟩:=dropc hr
  rw[hr,sumB]at hd
  have e2:=i64w ((i:Int)+1) (by omega) (by omega)
  have hx:=x.toNat_lt
  have w2:=i64w ((n:Int) * 257) (by omega) (by omega)
  have w3:=i64w ((n:Int) * 257+x.toNat) (by omega) (by omega)
  have w4:=i64w ((n:Int) * 257+x.toNat+1) (by omega) (by omega)
  have w6:=i64w (x.toNat:Int) (by omega) (by omega)
  have t2:((n:Int) * 257+x.toNat+1).tmod 65521=((n:Int) * 257+x.toNat+1) % 65521:=Int.tmod_eq_emod_of_nonneg (by omega)
  have w5:=i64w (((n:Int) * 257+x.toNat+1) % 65521) (by omega) (by omega)
  simp -implicitDefEqProofs [h1,e0,e2,w2,w3,w4,w6,t2]
  exact nx (i+1,(n * 257+x.toNat+1) % 65521) [] (by simp only[h3];exact⟨by omega,by omega,hd⟩) (by simp only;omega) (h4:=by simp)
def ddig (k:Nat) (out:List UInt8):List UInt8:=if h:k≤9 then UInt8.ofNat (48+k)::out else ddig (k / 10) (UInt8.ofNat (48+k % 10)::out)
termination_by k
theorem sdecC (k:Nat) (hk:k<1000000000):CV prog 112 [.int .i64 k] (.str (ddig k [])):=by
 obtain⟨R,hR⟩:∃ R,ddig k []=R:=⟨_,rfl⟩
 rw[hR]
 refine cvx func112 [] ntmps112 rfl rfl rfl ?_
 have h0:¬ (k:Int) < -9223372036854775807:=by omega
 have h1:¬ (k:Int)<0:=by omega
 simp -implicitDefEqProofs [h0,h1]
 refine ev_lp (X:=Nat×List UInt8) [0,3] [] (fun x=>[(0,.int .i64 x.1),(3,.str x.2)]) (fun _=>[]) (fun x=>x.1) (fun x=>x.2.length+x.1≤k∧ddig x.1 x.2=R) (k,[]) (by simp[hR]) ?_
 rintro⟨j,out⟩ ⟨hj,hm⟩
 simp only at hj hm
 rw[ddig]at hm
 by_cases hz:j≤9
 ·rw[dif_pos hz]at hm
  have h2:¬ (9:Int)<j:=by omega
  have e1:=i64w (48+(j:Int)) (by omega) (by omega)
  have e2:byteOf [.int .u8 (IntKind.u8.wrap (48+(j:Int)))]=UInt8.ofNat (48+j):=by
   have:IntKind.u8.wrap (48+(j:Int))=((48+j:Nat):Int):=by
    show(48+(j:Int)) % 256=_
    omega
   rw[this]
   rfl
  simp -implicitDefEqProofs [h2,e1]
  refine⟨isU8_wrap _,by omega,?_⟩
  rw[← hm,e2]
 ·rw[dif_neg hz]at hm
  have h2:(9:Int)<j:=by omega
  have e1:=i64w (48+(j:Int) % 10) (by omega) (by omega)
  have e3:=i64w ((j:Int) / 10) (by omega) (by omega)
  have e2:byteOf [.int .u8 (IntKind.u8.wrap (48+(j:Int) % 10))]=UInt8.ofNat (48+j % 10):=by
   have:IntKind.u8.wrap (48+(j:Int) % 10)=((48+j % 10:Nat):Int):=by
    show(48+(j:Int) % 10) % 256=_
    omega
   rw[this]
   rfl
  have t1:(j:Int).tmod 10=(j:Int) % 10:=Int.tmod_eq_emod_of_nonneg (by omega)
  have t2:(j:Int).tdiv 10=(j:Int) / 10:=Int.tdiv_eq_ediv_of_nonneg (by omega)
  simp -implicitDefEqProofs [h2,t1,t2,e1,e3]
  refine⟨isU8_wrap _,by omega,?_⟩
  refine nx (j / 10,UInt8.ofNat (48+j % 10)::out) [] ?_ ?_ (h4:=?_)
  ·refine⟨?_,hm⟩
   simp only[List.length_cons]
   omega
  ·simp only
   omega
  ·simp[e2]
theorem ddig_len (k:Nat) (out:List UInt8):(ddig k out).length≤out.length+k+1:=by
 induction k using Nat.strongRecOn generalizing out with
 | _ k ih =>
  rw[ddig]
  split
  ·simp only[List.length_cons]
   omega
  ·have:=ih (k / 10) (by omega) (UInt8.ofNat (48+k % 10)::out)
   simp only[List.length_cons]at this
   omega
def sealB (s:List UInt8):List UInt8:=if 400<s.length then [] else ddig (sumB s (1+s.length % 997)) []++58::s
theorem sumB_lt:∀ (s:List UInt8) (n:Nat),n<65521→sumB s n<65521
 | [],n,h=>h
 | x::r,n,h=>sumB_lt r _ (Nat.mod_lt _ (by omega))
theorem ssealC (s:List UInt8) (hs:s.length≤maxLen):CV prog 113 [.str s] (.str (sealB s)):=by
 have hlt:=sumB_lt s (1+s.length % 997) (by omega)
 refine cvx func113 [] ntmps113 rfl rfl rfl ?_
 unfold sealB
 by_cases h:400<s.length
 ·have h':(400:Int)<s.length:=by omega
  simp -implicitDefEqProofs [h,h']
 ·have h':¬ (400:Int)<s.length:=by omega
  rw[if_neg h]
  simp -implicitDefEqProofs [h']
  refine(ssumC s hs).call ?_
  simp -implicitDefEqProofs
  refine(sdecC _ (by omega)).call ?_
  simp -implicitDefEqProofs
  have hdl:=ddig_len (sumB s (1+s.length % 997)) []
  simp only[List.length_nil]at hdl
  omega
def hexL:List UInt8:=[48,49,50,51,52,53,54,55,56,57,97,98,99,100,101,102]
theorem byteOf_u8:byteOf ∘ u8row=id:=by
 funext c
 show UInt8.ofNat ((c.toNat:Int).toNat)=c
 simp
theorem renL_u8c (ρ:Nat→Option Plc):renL ρ ∘ u8row=u8row:=by
 funext c
 simp[u8row]
end Go.Av.F

end
section
namespace Go.Av.F
open Go Go.Av Go.Proofs Go.Proofs.Tryz
theorem ddig_dec:∀ (k:Nat) (out:List UInt8),ddig k out=Lib.decDigits k++out:=by
 intro k
 induction k using Nat.strongRecOn with
 | ind k ih =>
  intro out
  rw[ddig,Lib.decDigits]
  by_cases h:k<10
  ·rw[dif_pos (by omega),dif_pos h]
   rfl
  ·rw[dif_neg (by omega),dif_neg h,ih _ (by omega)]
   simp
end Go.Av.F

end
section
namespace Go.Av.F
open Go Go.Av Go.Proofs Go.Proofs.Tryz
theorem dec_len (n:Nat):∀ k,n<10 ^ k→1≤k→(Lib.decDigits n).length≤k:=by
 induction n using Nat.strongRecOn with
 | ind n ih =>
  intro k hk h1
  rw[Lib.decDigits]
  by_cases h:n<10
  ·rw[dif_pos h]
   simpa using h1
  ·rw[dif_neg h]
   obtain⟨j,rfl⟩:∃ j,k=j+1:=⟨k-1,by omega⟩
   rw[Nat.pow_succ]at hk
   have hj:1≤j:=by
    rcases Nat.eq_zero_or_pos j with h0 | h0
    ·subst h0;simp at hk;omega
    ·exact h0
   have:=ih (n / 10) (by omega) j (by omega) hj
   simp
   omega
end Go.Av.F

end
section
namespace Go.Av.F
open Go Go.Av Go.Proofs Go.Proofs.Tryz
def digB (n:Nat):UInt8:=hexL.getD n 0
theorem sdigC (n:Nat) (h:n<16):CV prog 126 [.int .i64 n] (.int .u8 (digB n).toNat):=by
 refine cvx func126 [] ntmps126 rfl rfl rfl ?_
 have hn:(n:Int)<16:=by omega
 have h0:n<hexL.length:=by simpa [hexL]using h
 have e:hexL[n]'h0=digB n:=by simp[digB,List.getD,h0]
 simp only[hexL]at h0 e
 simp -implicitDefEqProofs [hn,h0,h,e]
 try omega
def hexB:List UInt8→List UInt8
 | []=>[]
 | c::r=>digB (c.toNat / 16)::digB (c.toNat % 16)::hexB r
theorem hexB_len:∀ s,(hexB s).length=2 * s.length
 | []=>rfl
 | c::r=>by simp[hexB,hexB_len r];omega
theorem shexC (s:List UInt8) (hs:s.length≤1048576):CV prog 111 [.str s] (.str (hexB s)):=by
 obtain⟨R,hR⟩:∃ R,hexB s=R:=⟨_,rfl⟩
 rw[hR]
 refine cvx func111 [(5,[zI 0,zI 1,zI 2,zI 3,zI 4,zI 5,zI 7,zI 8,zI 9,zI 10,zI 11,zI 6,zI 12,zI 13,zI 14,zI 15])] ntmps111 rfl rfl rfl ?_
 simp -implicitDefEqProofs
 refine ev_lo (X:=Nat×List UInt8) [0,3,4] [(5,900)] (fun x=>[(4,.int .i64 x.1),(3,.sl 900 0 x.2.length)]) (fun x=>[(900,⟨1,x.2.map u8row⟩)]) (fun x=>s.length-x.1) (fun x=>x.1≤s.length∧x.2.length=2 * x.1∧x.2++hexB (s.drop x.1)=R) (0,[]) (by simp[hR]) ?_ (he:=by simp[obOf])
 rintro⟨i,out⟩ ⟨hi,hol,hd⟩
 simp only at hi hol hd
 cases hr:s.drop i with
 | nil =>
  have:=dropn hr
  rw[hr,hexB]at hd
  have hie:i=s.length:=by omega
  subst hie
  simp only[List.append_nil]at hd
  simp -implicitDefEqProofs [byteOf_u8,List.take_of_length_le,hd]
  exact fun x _=>rfl
 | cons x r =>
  obtain⟨h1,e0,e1,h3⟩:=dropc hr
  rw[hr,hexB]at hd
  have e2:=i64w ((i:Int)+1) (by omega) (by omega)
  have hx:=x.toNat_lt
  have w1:=i64w (x.toNat:Int) (by omega) (by omega)
  have q1:((x.toNat:Int)).tdiv 16=(x.toNat:Int) / 16:=Int.tdiv_eq_ediv_of_nonneg (by omega)
  have q2:((x.toNat:Int)).tmod 16=(x.toNat:Int) % 16:=Int.tmod_eq_emod_of_nonneg (by omega)
  have w2:=i64w ((x.toNat:Int) / 16) (by omega) (by omega)
  have c1:=sdigC (x.toNat / 16) (by omega)
  have c2:=sdigC (x.toNat % 16) (by omega)
  rw[show((x.toNat / 16:Nat):Int)=(x.toNat:Int) / 16 by omega]at c1
  rw[show((x.toNat % 16:Nat):Int)=(x.toNat:Int) % 16 by omega]at c2
  simp -implicitDefEqProofs [h1,e0,e1,w1,q1,q2,w2]
  refine c1.call ?_
  simp -implicitDefEqProofs [h1,e0,e1,w1,q1,q2,w2]
  refine c2.call ?_
  simp -implicitDefEqProofs
  refine⟨by omega,?_⟩
  refine nx (i+1,out++[digB (x.toNat / 16),digB (x.toNat % 16)]) [(26,900)] ⟨by simp only;omega,by simp;omega,by simp only[h3];simpa using hd⟩ (by simp only;omega) (h4:=?_)
  simp[obOf,e2,List.take_of_length_le,renL_u8c,u8row]
  try trace_state
end Go.Av.F

end
section
namespace Go.Av.F
open Go Go.Av Go.Proofs Go.Proofs.Tryz
theorem sealB_len (s:List UInt8):(sealB s).length≤70000:=by
 unfold sealB
 split
 ·simp
 ·have h1:=ddig_len (sumB s (1+s.length % 997)) []
  have h2:=sumB_lt s (1+s.length % 997) (by omega)
  simp at h1 ⊢
  omega
end Go.Av.F

end
section
namespace Go.Av
open Go Go.Proofs
variable {P:Program}
theorem ACall.frzL {f:Nat} {args:List AV} {L:List (Nat×Ob)} {R R':AV→List (Nat×Ob)→Prop} (h:ACall P f args L R)
  (hr:∀ r L',R r L'→R' r L'∨∃ id o L2,(∀ i,hpOf L' i=hpOf ((id,o)::L2) i)∧id ∉ L2.map (·.1)∧(∀ i,i∈L.map (·.1)→i∈L2.map (·.1))∧clR o.els=true∧R' (Av.frz id o r) L2):ACall P f args L R':=by
 intro w Z γ vs hv hh hg
 refine(h w Z γ vs hv hh hg).mono ?_
 rintro e w' ⟨v,r,L',Z',γ',h1,h2,h3,h4,h5,h6,h7,h8,h9⟩
 rcases hr r L' h2 with hk | ⟨id,o,L2,he,hid,hin,hcl,hR⟩
 ·exact⟨v,r,L',Z',γ',h1,hk,h3,h4,h5,h6,h7,h8,h9⟩
 have hido:hpOf L' id=some o:=by rw[he];simp
 obtain⟨rg,hrg,hor⟩:=h4.obj id o hido
 have hup:∀ {i x},hpOf L2 i=some x→i≠id∧hpOf L' i=some x:=fun h=>by
  obtain⟨a,b⟩:=hpOf_cons_ne (o:=o) hid h
  exact⟨a,by rw[he];exact b⟩
 have hsm:∀ i,i∈L2.map (·.1)→∃ x,hpOf L2 i=some x:=fun i hi=>by
  cases hx:hpOf L2 i with
  | some x=>exact⟨x,rfl⟩
  | none=>exact absurd hi (by
    clear hi hin hcl hR hup he hid
    induction L2 with
    | nil=>simp
    | cons y L3 ih =>
     obtain⟨a,b⟩:=y
     simp only[hpOf_cons]at hx
     split at hx
     ·cases hx
     ·rename_i hne
      simp only[List.map_cons,List.mem_cons,not_or]
      exact⟨hne,ih hx⟩)
 refine⟨v,Av.frz id o r,L2,fun p=>Z' p∨rg.has p,γ',h1,hR,h3.frz hrg hor hcl,⟨fun i x hx=>?_,fun i j o1 o2 r1 r2 hne g1 g2=>?_,fun i x r' hx hr' p hp=>?_,fun p hp=>?_,h4.gl.world (fun _ h=>.inl h) (fun _ _=>rfl)⟩,h5,fun p hp=>.inl (h6 p hp),fun p hp=>?_,fun i x r' hx=>?_,h9⟩
 ·obtain⟨hi,hx'⟩:=hup hx
  obtain⟨r',hr',hor'⟩:=h4.obj i x hx'
  refine⟨r',hr',hor'.spot,hor'.sz,hor'.fit,hor'.len,hor'.live,fun e j he hj=>?_,hor'.pln⟩
  obtain⟨u,hu,hru⟩:=hor'.cell e j he hj
  exact⟨u,hu,hru.world (fun b hb=>.inl hb) (fun p _=>rfl)⟩
 ·exact h4.dis i j o1 o2 r1 r2 hne (hup g1).2 (hup g2).2
 ·obtain⟨hi,hx'⟩:=hup hx
  rintro(hz | hz)
  ·exact h4.zon i x r' hx' hr' p hp hz
  ·exact Rg.apart_has (h4.dis i id x o r' rg hi hx' hido hr' hrg) hp hz
 ·rcases hp with hp | hp
  ·exact h4.zlt p hp
  ·obtain⟨p1,p2,p3,p4⟩:=hp
   obtain⟨⟨u,hu⟩,_⟩:=hor.live (p.off-rg.A.off) (by omega)
   have:=World.block_lt_of_cell? w' _ hu
   simp only[at_block]at this
   omega
 ·rcases hp with hp | hp
  ·exact h7 p hp
  ·rcases h8 id o rg hido hrg p hp with h | ⟨i,x,r',hx,hg',hp'⟩
   ·exact .inr h
   ·obtain⟨y,hy⟩:=hsm i (hin i (List.mem_map.2 ⟨_,qbl hx,rfl⟩))
    obtain⟨hi,hy'⟩:=hup hy
    have:=h9 i x hx
    exact absurd hp (Rg.apart_has (h4.dis i id y o r' rg hi hy' hido (by rw[this];exact hg') hrg) hp')
 ·exact h8 i x r' (hup hx).2
end Go.Av
namespace Go.Av.F
open Go Go.Av Go.Proofs Go.Proofs.Tryz
theorem callPickI {id:Nat} {bs:List UInt8} {p n:Int} (hp:0≤p∧p<1000000000) (hb:bs.length≤2000) {s:S} {dst:Option Nat} {K:S→Prop} (hr:s.h id=some (rdOb bs p))
  (hK:∀ k:Int,(1≤n→0≤k∧k<n)→(n<1→k=0)→K ⟨putA s.t dst (.int .i64 k),upd s.h id (some (rdOb bs (p+1))),s.u⟩):callA Go.Proofs.Tryz.prog 10 [.ptr id 0 0,.int .i64 n] dst s K:=by
 refine qac [(1000,.whole id)] (by kernel_rfl) (pickC bs p n hp hb) (by simp) (by simp) (by simp[hr]) (by simp) (by simp[hr]) ?_
 rintro r L' ⟨k,rfl,h1,h2,rfl⟩
 refine⟨[],⟨by simp,by simp,by simp,by simp,by simp⟩,?_⟩
 have e:(qae s [(1000,.whole id)] [] dst (.int .i64 k) [(1000,rdOb bs (p+1))])=⟨putA s.t dst (.int .i64 k),upd s.h id (some (rdOb bs (p+1))),s.u⟩:=by
  simp only[qae]
  congr 1
  ·funext i;simp;split <;> simp_all
  ·exact Us.app_nil _
 rw[e];exact hK k h1 h2
end Go.Av.F

end
section
namespace Go.Av.F
open Go Go.Av Go.Proofs Go.Proofs.Tryz
structure LT where
 ls:Int
 la:Int
 lx:List UInt8
deriving DecidableEq,Inhabited
def LT.row (w:LT):List AV:=[.int .i64 w.ls,.int .i64 w.la,.str w.lx]
structure DK where
 s0:List (List UInt8)
 s1:List (List UInt8)
 late:List LT
deriving DecidableEq,Inhabited
def DK.row (d:DK):List AV:=[.lst 1 (d.s0.map qav),.lst 1 (d.s1.map qav),.lst 3 (d.late.map LT.row)]
def ltOb (l:List LT):Ob:=⟨3,l.map LT.row⟩
structure DkT (d:DK):Prop where
 l0:d.s0.length≤1048576
 l1:d.s1.length≤1048576
 l2:d.late.length≤1048576
 t0:∀ x∈d.s0,x.length≤1048576
 t1:∀ x∈d.s1,x.length≤1048576
 t2:∀ w∈d.late,w.lx.length≤1048576
def thereB (d:DK) (side at':Int) (text:List UInt8):Bool:=decide (0≤side) && decide (side≤1) && decide (0≤at') && decide (at'<d.s0.length) && decide (text.length≤420)
theorem sThereC (d:DK) (h:DkT d) (side at':Int) (text:List UInt8) (ht:text.length≤1048576):CV prog 75 [.agg d.row,.int .i64 side,.int .i64 at',.str text] (.bool (thereB d side at' text)):=by
 have:=h.l0
 refine cvx func75 [] ntmps75 rfl rfl rfl ?_ (hca:=by simp[DK.row])
 simp -implicitDefEqProofs [DK.row,thereB]
 grind
def dOkB (d:DK):Bool:=decide (1≤d.s0.length) && decide (d.s0.length≤120) && decide (d.s1.length=d.s0.length) && decide (d.late.length≤600) &&
 d.s0.all (fun x=>decide (x.length≤420)) && d.s1.all (fun x=>decide (x.length≤420)) && d.late.all (fun w=>thereB d w.ls w.la w.lx)
theorem sDiskOkC (d:DK) (h:DkT d):CV prog 47 [.agg d.row] (.bool (dOkB d)):=by
 obtain⟨R,hR⟩:∃ R,dOkB d=R:=⟨_,rfl⟩
 rw[hR]
 have h0:=h.l0
 have h1:=h.l1
 have h2:=h.l2
 refine cvx func47 [(12,[zJ 0 [1] [],zJ 1 [] [1],zJ 2 [1] [1],zJ 3 [] [1],zJ 4 [] [1],zJ 5 [] [1],zJ 6 [] [1],zJ 7 [] [1],zJ 8 [1] [1],zJ 9 [] [1],zJ 10 [] [1],zJ 11 [] [1],zJ 12 [] [1],zJ 13 [] [1],zJ 14 [1] [1],zJ 15 [] [1],zJ 16 [] [1],zJ 17 [] [1],zJ 18 [] [1],zI 19,zI 20])] ntmps47 rfl rfl rfl ?_ (hca:=by simp[DK.row])
 by_cases g:1≤d.s0.length∧d.s0.length≤120∧d.s1.length=d.s0.length∧d.late.length≤600
 rotate_left
 ·have:R=false:=by rw[← hR];unfold dOkB;grind
  subst this
  simp -implicitDefEqProofs [DK.row]
  grind
 obtain⟨g1,g2,g3,g4⟩:=g
 have g1':¬ (d.s0.length:Int)<1:=by omega
 have g2':¬ 120<(d.s0.length:Int):=by omega
 have g4':¬ 600<(d.late.length:Int):=by omega
 simp -implicitDefEqProofs [DK.row,g1',g2',g3,g4']
 refine ev_lp (X:=Nat) [1,2,3,4] [(1,1)] (fun i=>[(4,.int .i64 i)]) (fun _=>[]) (fun i=>d.s0.length-i) (fun i=>i≤d.s0.length∧((d.s0.drop i).all (fun x=>decide (x.length≤420)) && (d.s1.drop i).all (fun x=>decide (x.length≤420)) && d.late.all (fun w=>thereB d w.ls w.la w.lx))=R) 0 (by simp[← hR,dOkB,g1,g2,g3,g4]) ?_ (he:=by simp[obOf])
 rintro i ⟨hi,hd⟩
 by_cases hlt:i<d.s0.length
 ·have hlt1:i<d.s1.length:=by omega
  have k0:=List.drop_eq_getElem_cons hlt
  have k1:=List.drop_eq_getElem_cons hlt1
  generalize ex:d.s0[i]=x at *
  generalize ey:d.s1[i]=y at *
  have hx:=List.getElem?_eq_some_iff.2 ⟨hlt,ex⟩
  have hy:=List.getElem?_eq_some_iff.2 ⟨hlt1,ey⟩
  rw[k0,k1]at hd
  simp only[List.all_cons]at hd
  have hli:(i:Int)<d.s0.length:=by omega
  have e2:=i64w ((i:Int)+1) (by omega) (by omega)
  simp -implicitDefEqProofs [obOf,qav,hlt,ex,ey,hli,e2,g3]
  repeat' first
   | with_reducible refine And.intro ?_ ?_
   | with_reducible intro _
  all_goals first
   | exact nx (i+1) [(1,1)] (by grind) (h4:=by simp[obOf])
   | grind
 ·have hie:i=d.s0.length:=by omega
  subst hie
  rw[List.drop_of_length_le (Nat.le_refl _),List.drop_of_length_le (by omega)]at hd
  simp only[List.all_nil,Bool.true_and]at hd
  simp -implicitDefEqProofs [obOf]
  refine ev_lp (X:=Nat) [1,2,3,5] [(1,1)] (fun i=>[(5,.int .i64 i)]) (fun _=>[]) (fun i=>d.late.length-i) (fun i=>i≤d.late.length∧((d.late.drop i).all (fun w=>thereB d w.ls w.la w.lx))=R) 0 (by simp[hd]) ?_ (he:=by simp[obOf])
  rintro i ⟨hi,hd⟩
  cases hr:d.late.drop i with
  | nil =>
   have:=dropn hr
   rw[hr]at hd
   have hie:i=d.late.length:=by omega
   subst hie
   simp -implicitDefEqProofs [obOf]
   simpa using hd
  | cons w q =>
   obtain⟨k1,e0,e1,k3⟩:=dropc hr
   rw[hr]at hd
   simp only[List.all_cons]at hd
   have hli:(i:Int)<d.late.length:=by omega
   have e2:=i64w ((i:Int)+1) (by omega) (by omega)
   have hw:=h.t2 w (List.mem_of_getElem? e1)
   have c:=sThereC d h w.ls w.la w.lx hw
   simp only[DK.row]at c
   simp -implicitDefEqProofs [obOf,LT.row,k1,e0,hli]
   refine c.call ?_
   simp -implicitDefEqProofs [e2]
   repeat' first
    | with_reducible refine And.intro ?_ ?_
    | with_reducible intro _
   all_goals first
    | exact nx (i+1) [(1,1)] (by grind) (h4:=by simp[obOf])
    | grind
def lateF (side at':Int) (w:LT):Bool:=decide (w.ls=side) && decide (w.la=at')
def sideL (d:DK) (side:Int):List (List UInt8):=if side=0 then d.s0 else d.s1
def readB (d:DK) (side at':Int):List UInt8:=match d.late.reverse.find? (lateF side at')with
 | some w=>w.lx
 | none=>(sideL d side)[at'.toNat]?.getD []
theorem find_rev {α:Type} (p:α→Bool) {l:List α} {i:Nat} {x:α} (h:l[i]?=some x) (ha:(l.drop (i+1)).all (fun y=>!p y)=true):(if p x=true then l.reverse.find? p=some x else l.reverse.find? p=(l.take i).reverse.find? p):=by
 have e:l=l.take i++x::l.drop (i+1):=by
  obtain⟨h1,rfl⟩:=List.getElem?_eq_some_iff.1 h
  rw[← List.drop_eq_getElem_cons h1,List.take_append_drop]
 have e2:l.reverse=(l.drop (i+1)).reverse++x::(l.take i).reverse:=by
  conv=>lhs;rw[e]
  simp
 have e3:(l.drop (i+1)).reverse.find? p=none:=by
  rw[List.find?_eq_none]
  intro y hy
  rw[List.mem_reverse]at hy
  simpa using List.all_eq_true.1 ha y hy
 rw[e2,List.find?_append,e3,Option.none_or,List.find?_cons]
 cases p x <;> simp
theorem sReadC' (d:DK) (h:DkT d) (side at':Int) (hs:side=0∨side=1) (ha:0≤at'∧at'<d.s0.length) (h1:d.s1.length=d.s0.length):CV prog 132 [.agg d.row,.int .i64 side,.int .i64 at'] (.str (readB d side at')):=by
 obtain⟨R,hR⟩:∃ R,readB d side at'=R:=⟨_,rfl⟩
 rw[hR]
 have h0:=h.l0
 have h2:=h.l2
 refine cvx func132 [] ntmps132 rfl rfl rfl ?_ (hca:=by simp[DK.row])
 have e0:=i64w ((d.late.length:Int)-1) (by omega) (by omega)
 simp -implicitDefEqProofs [DK.row,e0]
 refine ev_lp (X:=Nat) [1,2,3,7] [(3,3)] (fun i=>[(7,.int .i64 ((i:Int)-1))]) (fun _=>[]) (fun i=>i) (fun i=>i≤d.late.length∧(d.late.drop i).all (fun w=>!lateF side at' w)=true) d.late.length (by simp) ?_ (he:=by simp[obOf])
 rintro i ⟨hi,hd⟩
 cases i with
 | zero =>
  have hf:d.late.reverse.find? (lateF side at')=none:=by
   rw[List.find?_eq_none]
   intro y hy
   rw[List.mem_reverse]at hy
   simpa using List.all_eq_true.1 hd y hy
  unfold readB at hR
  rw[hf]at hR
  have ha0:at'.toNat<d.s0.length:=by omega
  have ha1:at'.toNat<d.s1.length:=by omega
  have ha1':at'<d.s1.length:=by omega
  rcases hs with rfl | rfl
  ·have hx:d.s0[at'.toNat]?=some R:=by
    rw[List.getElem?_eq_getElem ha0]
    simpa [sideL,List.getElem?_eq_getElem ha0]using hR
   have hx0:=(List.getElem?_eq_some_iff.1 hx).2
   simp -implicitDefEqProofs [obOf,ha.1,ha.2,ha0,hx0,qav]
  ·have hx:d.s1[at'.toNat]?=some R:=by
    rw[List.getElem?_eq_getElem ha1]
    simpa [sideL,List.getElem?_eq_getElem ha1]using hR
   have hx0:=(List.getElem?_eq_some_iff.1 hx).2
   simp -implicitDefEqProofs [obOf,ha.1,ha1',ha1,hx0,qav]
 | succ k =>
  have hk:k<d.late.length:=by omega
  obtain⟨w,hw⟩:∃ w,d.late[k]?=some w:=⟨_,List.getElem?_eq_getElem hk⟩
  have hw0:=(List.getElem?_eq_some_iff.1 hw).2
  have e1:((k+1:Nat):Int)-1=k:=by omega
  have e2:(0:Int)≤k:=by omega
  have e3:(k:Int)<d.late.length:=by omega
  have e4:=i64w ((k:Int)-1) (by omega) (by omega)
  have hf:=find_rev (lateF side at') hw hd
  have hdk:(d.late.drop k).all (fun w=>!lateF side at' w)=(!lateF side at' w && (d.late.drop (k+1)).all (fun w=>!lateF side at' w)):=by
   rw[List.drop_eq_getElem_cons hk,hw0,List.all_cons]
  have hnx:lateF side at' w=false→∀ x∈d.late.drop k,lateF side at' x=false:=fun hl x hx=>by
   rw[hl,hd]at hdk
   simpa using List.all_eq_true.1 hdk x hx
  have hlx:lateF side at' w=true→w.lx=R:=fun hl=>by
   rw[if_pos hl]at hf
   unfold readB at hR
   rw[hf]at hR
   exact hR
  simp only[e1]
  simp -implicitDefEqProofs [obOf,LT.row,hk,hw0,e2,e3,e4]
  refine⟨fun q1=>⟨fun q2=>hlx (by simp[lateF,q1,q2]),fun q2=>nx k [(3,3)] ⟨by omega,hnx (by simp[lateF,q2])⟩ (h4:=by simp[obOf])⟩,fun q1=>nx k [(3,3)] ⟨by omega,hnx (by simp[lateF,q1])⟩ (h4:=by simp[obOf])⟩
theorem dOk_len {d:DK} (h:dOkB d=true):1≤d.s0.length∧d.s0.length≤120∧d.s1.length=d.s0.length∧d.late.length≤600∧(∀ x∈d.s0,x.length≤420)∧(∀ x∈d.s1,x.length≤420)∧∀ w∈d.late,thereB d w.ls w.la w.lx=true:=by
 simp only[dOkB,Bool.and_eq_true,decide_eq_true_eq,List.all_eq_true]at h
 obtain⟨⟨⟨⟨⟨⟨g1,g2⟩,g3⟩,g4⟩,g5⟩,g6⟩,g7⟩:=h
 exact⟨g1,g2,g3,g4,g5,g6,g7⟩
theorem thereB_iff {d:DK} {side at':Int} {t:List UInt8}:thereB d side at' t=true↔(side=0∨side=1)∧(0≤at'∧at'<d.s0.length)∧t.length≤420:=by
 simp only[thereB,Bool.and_eq_true,decide_eq_true_eq]
 omega
theorem dOk_T {d:DK} (h:dOkB d=true):DkT d:=by
 obtain⟨g1,g2,g3,g4,g5,g6,g7⟩:=dOk_len h
 refine⟨by omega,by omega,by omega,fun x hx=>by have:=g5 x hx;omega,fun x hx=>by have:=g6 x hx;omega,fun w hw=>?_⟩
 have:=(thereB_iff.1 (g7 w hw)).2.2
 omega
theorem readB_len {d:DK} (h:dOkB d=true) (side at':Int):(readB d side at').length≤420:=by
 obtain⟨g1,g2,g3,g4,g5,g6,g7⟩:=dOk_len h
 unfold readB
 split
 ·rename_i w hw
  have:=List.mem_of_find?_eq_some hw
  rw[List.mem_reverse]at this
  exact(thereB_iff.1 (g7 w this)).2.2
 ·unfold sideL
  split
  ·cases e:d.s0[at'.toNat]? with
   | none=>simp
   | some x=>simpa using g5 x (List.mem_of_getElem? e)
  ·cases e:d.s1[at'.toNat]? with
   | none=>simp
   | some x=>simpa using g6 x (List.mem_of_getElem? e)
def dReadB (d:DK) (side at':Int):List UInt8×Bool:=if dOkB d && thereB d side at' [] then (readB d side at',true) else ([],false)
theorem sReadC (d:DK) (h:DkT d) (side at':Int):CV prog 136 [.agg d.row,.int .i64 side,.int .i64 at'] (.tup [.str (dReadB d side at').1,.bool (dReadB d side at').2]):=by
 have c1:=sDiskOkC d h
 have c2:=sThereC d h side at' [] (by simp)
 unfold dReadB
 refine cvx func136 [] ntmps136 rfl rfl rfl ?_ (hca:=by simp[DK.row])
 cases g1:dOkB d with
 | false =>
  rw[g1]at c1
  simp only[DK.row]at c1
  simp -implicitDefEqProofs [DK.row]
  refine c1.call ?_
  simp -implicitDefEqProofs
 | true =>
  rw[g1]at c1
  cases g2:thereB d side at' []with
  | false =>
   rw[g2]at c2
   simp only[DK.row]at c1 c2
   simp -implicitDefEqProofs [DK.row]
   refine c1.call ?_
   simp -implicitDefEqProofs
   refine c2.call ?_
   simp -implicitDefEqProofs
  | true =>
   rw[g2]at c2
   obtain⟨k1,k2,k3⟩:=thereB_iff.1 g2
   have c3:=sReadC' d h side at' k1 k2 (dOk_len g1).2.2.1
   simp only[DK.row]at c1 c2 c3
   simp -implicitDefEqProofs [DK.row]
   refine c1.call ?_
   simp -implicitDefEqProofs
   refine c2.call ?_
   simp -implicitDefEqProofs
   refine c3.call ?_
   simp -implicitDefEqProofs
end Go.Av.F

end
section
namespace Go.Av.F
open Go Go.Av Go.Proofs Go.Proofs.Tryz
def smB (s:List UInt8):Nat:=sumB s (1+s.length % 997)
theorem smB_lt (s:List UInt8):smB s<65521:=sumB_lt s _ (by omega)
theorem sSumC (s:List UInt8) (hs:s.length≤maxLen):CV prog 110 [.str s] (.int .i64 (smB s:Nat)):=ssumC s hs
theorem dReadB_len (d:DK) (side at':Int):(dReadB d side at').1.length≤420:=by
 unfold dReadB
 split
 ·rename_i h
  simp only[Bool.and_eq_true]at h
  exact readB_len h.1 side at'
 ·simp
def qce (d:DK) (p:PT) (side:Int):Bool:=(dReadB d side p.pa).2 && ptOkB p && decide (0<p.pa) && decide ((smB (dReadB d side p.pa).1:Int)=p.ps)
theorem sSideC (d:DK) (h:DkT d) (p:PT) (side:Int):CV prog 131 [.agg d.row,.agg p.row,.int .i64 side] (.bool (qce d p side)):=by
 have c1:=sReadC d h side p.pa
 have c2:=sPtrOkC p
 have c3:=sSumC (dReadB d side p.pa).1 (by have:=dReadB_len d side p.pa;simp[maxLen];omega)
 unfold qce
 generalize dReadB d side p.pa=x at *
 obtain⟨t,ok⟩:=x
 simp only[DK.row,PT.row]at c1 c2 c3
 refine cvx func131 [(2,[zI 0,zI 1,zJ 2 [4] [],zI 3,zI 4,zI 5,zI 6,zJ 7 [4] [],zI 8,zI 9,zI 10,zI 11,zI 13,zJ 14 [4] [],zJ 12 [] [4],zI 15,zI 16,zI 17])] ntmps131 rfl rfl rfl ?_ (hca:=by simp[DK.row,PT.row])
 simp -implicitDefEqProofs [DK.row,PT.row]
 refine c1.call ?_
 cases ok with
 | false=>simp -implicitDefEqProofs
 | true =>
  simp -implicitDefEqProofs
  refine c2.call ?_
  cases ptOkB p with
  | false=>simp -implicitDefEqProofs
  | true =>
   simp -implicitDefEqProofs
   refine⟨fun hp=>?_,fun hp=>by omega⟩
   refine c3.call ?_
   simp -implicitDefEqProofs [hp]
   first | rfl | simp[Bool.eq_iff_iff]
def blkReadB (d:DK) (p:PT):List UInt8×Int :=
 if (ptOkB p && decide (p.pa=0))=true then ([],1) else if qce d p 0=true then (readB d 0 p.pa,0) else if qce d p 1=true then (readB d 1 p.pa,0) else ([],2)
theorem side_read {d:DK} {p:PT} {side:Int} (h:qce d p side=true):dOkB d=true∧ptOkB p=true∧0<p.pa∧thereB d side p.pa []=true∧(smB (readB d side p.pa):Int)=p.ps:=by
 simp only[qce,Bool.and_eq_true,decide_eq_true_eq]at h
 obtain⟨⟨⟨h1,h2⟩,h3⟩,h4⟩:=h
 unfold dReadB at h1 h4
 split at h1
 ·rename_i g
  rw[if_pos g]at h4
  simp only[Bool.and_eq_true]at g
  exact⟨g.1,h2,h3,g.2,h4⟩
 ·cases h1
theorem sBlkReadC (d:DK) (h:DkT d) (p:PT):CV prog 125 [.agg d.row,.agg p.row] (.tup [.str (blkReadB d p).1,.int .i64 (blkReadB d p).2]):=by
 obtain⟨R,hR⟩:∃ R,blkReadB d p=R:=⟨_,rfl⟩
 rw[hR]
 unfold blkReadB at hR
 have c2:=sPtrOkC p
 simp only[PT.row]at c2
 refine cvx func125 [] ntmps125 rfl rfl rfl ?_ (hca:=by simp[DK.row,PT.row])
 simp -implicitDefEqProofs [DK.row,PT.row]
 refine c2.call ?_
 by_cases hz:(ptOkB p && decide (p.pa=0))=true
 ·rw[if_pos hz]at hR
  simp only[Bool.and_eq_true,decide_eq_true_eq]at hz
  simp -implicitDefEqProofs [hz.1,hz.2,← hR]
 rw[if_neg hz]at hR
 have hz':¬ (ptOkB p=true∧p.pa=0):=by simpa using hz
 have key:∀ j:Nat,j<2→qce d p j=true→(∀ k:Nat,k<j→qce d p k=false)→R=(readB d j p.pa,0):=fun j hj h1 h2=>by
  rw[← hR]
  rcases(show j=0∨j=1 by omega)with rfl | rfl
  ·have h1':qce d p 0=true:=h1
   simp[h1']
  ·have h2':qce d p 0=false:=h2 0 (by omega)
   have h1':qce d p 1=true:=h1
   simp[h1',h2']
 have key2:qce d p 0=false→qce d p 1=false→R=([],2):=fun h1 h2=>by rw[← hR,h1,h2];simp
 have hcase:ptOkB p=false∨(ptOkB p=true∧¬ p.pa=0):=by
  cases g:ptOkB p with
  | false=>exact .inl rfl
  | true=>exact .inr ⟨rfl,fun e=>hz' ⟨g,e⟩⟩
 rcases hcase with hp | ⟨hp,hpa⟩
 rotate_left
 simp -implicitDefEqProofs [hp,hpa]
 rotate_left
 simp -implicitDefEqProofs [hp]
 all_goals
  refine ev_lp (X:=Nat) [2,3,4,5,6] [(2,2),(3,3)] (fun i=>[(6,.int .i64 i)]) (fun _=>[]) (fun i=>2-i) (fun i=>i≤2∧∀ k:Nat,k<i→qce d p k=false) 0 (by simp) ?_ (he:=by simp[obOf])
  rintro i ⟨hi,hf⟩
  by_cases h2:i=2
  ·subst h2
   have:=key2 (hf 0 (by omega)) (hf 1 (by omega))
   simp -implicitDefEqProofs [obOf,this]
  ·have h2':i<2:=by omega
   have h2i:(i:Int)<2:=by omega
   have e2:=i64w ((i:Int)+1) (by omega) (by omega)
   have c4:=sSideC d h p i
   simp only[DK.row,PT.row]at c4
   simp -implicitDefEqProofs [obOf,h2i]
   refine c4.call ?_
   cases hb:qce d p i with
   | true =>
    have hk:=key i h2' hb hf
    obtain⟨m1,m2,m3,m4,m5⟩:=side_read hb
    obtain⟨n1,n2,n3⟩:=thereB_iff.1 m4
    have c5:=sReadC' d h i p.pa n1 n2 (dOk_len m1).2.2.1
    simp only[DK.row]at c5
    simp -implicitDefEqProofs
    refine c5.call ?_
    simp -implicitDefEqProofs [hk]
   | false =>
    simp -implicitDefEqProofs
    exact nx (i+1) [(2,2),(3,3)] ⟨by omega,fun k hk=>by
     rcases(show k<i∨k=i by omega)with h | rfl
     ·exact hf k h
     ·exact hb⟩ (h4:=by simp[obOf,e2])
theorem sCopyO (d:DK) (h:DkT d):ACall prog 49 [.agg d.row] [] (fun r L'=>r=.agg [.sl 7 0 d.s0.length,.sl 12 0 d.s1.length,.sl 17 0 d.late.length]∧L'=[(7,strOb d.s0),(12,strOb d.s1),(17,ltOb d.late)]):=by
 have h0:=h.l0
 have h1:=h.l1
 have h2:=h.l2
 refine acx func49 [(1,[zI 1,zI 2,zJ 3 [1] [],zJ 6 [] [1],zJ 7 [] [1],zJ 8 [1] [1],zJ 12 [] [1],zJ 13 [1] [1],zJ 0 [] [1],zJ 4 [0,3] [1],zJ 5 [] [1],zJ 9 [0,8] [1],zJ 10 [] [1],zJ 11 [] [1],zJ 14 [0,14] [],zI 15,zI 16])] ntmps49 rfl rfl rfl ?_
 simp -implicitDefEqProofs [DK.row,strOb,ltOb]
 refine⟨⟨by omega,fun x _ y hy=>?_⟩,⟨by omega,fun x _ y hy=>?_⟩,by omega,fun x _ y hy=>?_⟩
 ·simp only[qav,List.mem_cons,List.not_mem_nil,or_false]at hy;subst hy;rfl
 ·simp only[qav,List.mem_cons,List.not_mem_nil,or_false]at hy;subst hy;rfl
 ·simp only[LT.row,List.mem_cons,List.not_mem_nil,or_false]at hy;rcases hy with rfl | rfl | rfl <;> rfl
theorem sCopyC (d:DK) (h:DkT d):CV prog 49 [.agg d.row] (.agg d.row):=by
 refine CV.of_frz (sCopyO d h) ?_ (hca:=by simp[DK.row]) (hcv:=by simp[DK.row])
 rintro r L' ⟨rfl,rfl⟩
 refine⟨by simp,by simp,by simp[clR,strOb,ltOb,qav,LT.row],?_⟩
 simp[qcf,DK.row,strOb,ltOb,List.take_of_length_le]
 exact qaz _
def blkToB (at':Int) (text:List UInt8) (birth:Int):PT:=if at'<1∨ptOkB ⟨at',smB text,birth⟩=false then ⟨0,0,0⟩ else ⟨at',smB text,birth⟩
theorem sBlkToC (at':Int) (text:List UInt8) (birth:Int) (ht:text.length≤maxLen):CV prog 90 [.int .i64 at',.str text,.int .i64 birth] (.agg (blkToB at' text birth).row):=by
 have c1:=sSumC text ht
 have c2:=sPtrOkC ⟨at',smB text,birth⟩
 unfold blkToB
 simp only[PT.row]at c2
 refine cvx func90 [] ntmps90 rfl rfl rfl ?_ (hcv:=by simp[PT.row])
 simp -implicitDefEqProofs
 refine c1.call ?_
 simp -implicitDefEqProofs
 by_cases h1:at'<1
 ·simp -implicitDefEqProofs [h1]
  intro h;omega
 ·simp -implicitDefEqProofs [h1]
  intro _
  refine c2.call ?_
  cases ptOkB ⟨at',smB text,birth⟩with
  | true=>simp -implicitDefEqProofs
  | false=>simp -implicitDefEqProofs
end Go.Av.F

end
section
namespace Go.Av.F
open Go Go.Av Go.Proofs Go.Proofs.Tryz
theorem CV.of_imp {P:Program} {f:Nat} {args:List AV} {v:AV} (h:ACall P f args [] (fun r L'=>impA r v∧L'=[])) (he:enters P f=true:=by kernel_rfl) (hca:clL args=true:=by simp) (hcv:clA v=true:=by simp):CV P f args v :=
 ⟨he,hca,hcv,h.imp fun r L' ⟨h1,h2⟩=>⟨v,h1,rfl,h2⟩⟩
@[simp] theorem impA_rfl (r:AV):impA r r=True:=eq_true (qaz r)
def zDK:DK:=⟨[],[],[]⟩
theorem impA_zd:impA (.agg [.nils,.nils,.nils]) (.agg zDK.row):=impA_ag (.cons (qby 1) (.cons (qby 1) (.cons (qby 3) .nil)))
theorem qap {α β:Type} (f:α→β) (l:List α):List.take l.length (List.map f l)=List.map f l:=List.take_of_length_le (by simp)
@[simp] theorem renL_strRow (ρ:Nat→Option Plc):renL ρ ∘ qav=qav:=by funext x;simp[qav]
@[simp] theorem renL_ltRow (ρ:Nat→Option Plc):renL ρ ∘ LT.row=LT.row:=by funext x;simp[LT.row]
@[simp] theorem renOb_strOb (ρ:Nat→Option Plc) (l:List (List UInt8)):renOb ρ (strOb l)=strOb l:=by simp[strOb,renOb]
@[simp] theorem renOb_ltOb (ρ:Nat→Option Plc) (l:List LT):renOb ρ (ltOb l)=ltOb l:=by simp[ltOb,renOb]
def qbj (d:DK) (side at':Int) (text:List UInt8):DK×Bool :=
 if dOkB d=false then (zDK,false) else if thereB d side at' text=false∨d.late.length=600 then (d,false) else (⟨d.s0,d.s1,d.late++[⟨side,at',text⟩]⟩,true)
theorem sWriteK (d:DK) (h:DkT d) (side at':Int) (text:List UInt8) (ht:text.length≤1048576) (R:DK×Bool) (hR:qbj d side at' text=R):ACall prog 114 [.agg d.row,.int .i64 side,.int .i64 at',.str text] [] (fun r L'=>(R=(zDK,false)∧r=.tup [.agg [.nils,.nils,.nils],.bool false]∧L'=[]) ∨
   (∃ id,(id=17∨id=37)∧r=.tup [.agg [.sl 7 0 R.1.s0.length,.sl 12 0 R.1.s1.length,.sl id 0 R.1.late.length],.bool R.2]∧L'=[(7,strOb R.1.s0),(12,strOb R.1.s1),(id,ltOb R.1.late)])):=by
 unfold qbj at hR
 have h2:=h.l2
 have c1:=sDiskOkC d h
 have c2:=sThereC d h side at' text ht
 have co:=sCopyO d h
 simp only[DK.row]at c1 c2 co
 refine acx func114 [] ntmps114 rfl rfl rfl ?_
 simp -implicitDefEqProofs [DK.row]
 refine c1.call ?_
 cases hok:dOkB d with
 | false =>
  rw[if_pos hok]at hR
  simp -implicitDefEqProofs [← hR]
 | true =>
  rw[if_neg (by simp[hok])]at hR
  simp -implicitDefEqProofs
  refine qac [] (by kernel_rfl) co (by simp) (by simp) trivial (by simp) (by simp) ?_
  rintro r L' ⟨rfl,rfl⟩
  refine⟨[(7,7),(12,12),(17,17)],⟨by simp,by simp,by simp,by simp,by simp⟩,?_⟩
  simp only[qae]
  simp -implicitDefEqProofs
  refine c2.call ?_
  cases hth:thereB d side at' text with
  | false =>
   rw[if_pos (.inl hth)]at hR
   simp -implicitDefEqProofs [← hR]
  | true =>
   by_cases h6:d.late.length=600
   ·rw[if_pos (.inr h6)]at hR
    have h6':(d.late.length:Int)=600:=by omega
    simp -implicitDefEqProofs [← hR,h6']
   ·rw[if_neg (by simp[hth,h6])]at hR
    have h6':¬ (d.late.length:Int)=600:=by omega
    simp -implicitDefEqProofs [← hR,h6',ltOb,qap,LT.row]
    omega
theorem sWriteC (d:DK) (h:DkT d) (side at':Int) (text:List UInt8) (ht:text.length≤1048576):CV prog 114 [.agg d.row,.int .i64 side,.int .i64 at',.str text] (.tup [.agg (qbj d side at' text).1.row,.bool (qbj d side at' text).2]):=by
 obtain⟨R,hR⟩:∃ R,qbj d side at' text=R:=⟨_,rfl⟩
 rw[hR]
 refine CV.of_frz (sWriteK d h side at' text ht R hR) ?_ (hca:=by simp[DK.row]) (hcv:=by simp[DK.row])
 rintro r L' (⟨rfl,rfl,rfl⟩ | ⟨id,hid,rfl,rfl⟩)
 ·refine⟨by simp,by simp,by simp,?_⟩
  simp only[qcf]
  exact impA_tu (.cons impA_zd (.cons (qaz _) .nil))
 ·rcases hid with rfl | rfl
  all_goals
   refine⟨by simp,by simp,by simp[clR,strOb,ltOb,qav,LT.row],?_⟩
   simp[qcf,DK.row,strOb,ltOb,qap]
def putP (p:List (List UInt8)×List (List UInt8)) (w:LT):List (List UInt8)×List (List UInt8):=if w.ls=0 then (p.1.set w.la.toNat w.lx,p.2) else (p.1,p.2.set w.la.toNat w.lx)
def qbm (d:DK):DK:=if dOkB d=true then ⟨(d.late.foldl putP (d.s0,d.s1)).1,(d.late.foldl putP (d.s0,d.s1)).2,[]⟩ else zDK
theorem putP_len (p:List (List UInt8)×List (List UInt8)) (w:LT):(putP p w).1.length=p.1.length∧(putP p w).2.length=p.2.length:=by
 unfold putP;split <;> simp
theorem sFlushK (d:DK) (h:DkT d) (R:DK) (hR:qbm d=R):ACall prog 81 [.agg d.row] [] (fun r L'=>(R=zDK∧r=.agg [.nils,.nils,.nils]∧L'=[]) ∨
   (r=.agg [.sl 7 0 R.s0.length,.sl 12 0 R.s1.length,.nils]∧R.late=[]∧L'=[(7,strOb R.s0),(12,strOb R.s1)])):=by
 unfold qbm at hR
 have h0:=h.l0
 have h1:=h.l1
 have h2:=h.l2
 have c1:=sDiskOkC d h
 have co:=sCopyO d h
 simp only[DK.row]at c1 co
 refine acx func81 [(7,[zI 0,zJ 1 [1] [],zJ 2 [] [1],zI 3,zI 4,zI 5,zJ 6 [] [1],zI 7,zJ 8 [3] [],zJ 9 [] [1,3],zJ 10 [1] [1,3],zJ 11 [] [1,3],zJ 12 [] [1,3],zJ 13 [] [1,3],zJ 14 [] [1,3],zJ 15 [] [1,3],zJ 16 [1] [1,3],zJ 17 [] [1,3],zJ 18 [] [1,3],zJ 19 [] [1,3],zJ 20 [] [1,3],zJ 21 [7,12] [],zI 22])] ntmps81 rfl rfl rfl ?_
 simp -implicitDefEqProofs [DK.row]
 refine c1.call ?_
 cases hok:dOkB d with
 | false =>
  rw[if_neg (by simp[hok])]at hR
  simp -implicitDefEqProofs [← hR]
 | true =>
  rw[if_pos hok]at hR
  obtain⟨g1,g2,g3,g4,g5,g6,g7⟩:=dOk_len hok
  simp -implicitDefEqProofs
  refine qac [] (by kernel_rfl) co (by simp) (by simp) trivial (by simp) (by simp) ?_
  rintro r L' ⟨rfl,rfl⟩
  refine⟨[(7,7),(12,12),(17,17)],⟨by simp,by simp,by simp,by simp,by simp⟩,?_⟩
  simp only[qae]
  simp -implicitDefEqProofs
  refine ev_lp (X:=Nat×(List (List UInt8)×List (List UInt8))) [1,2,3,4] [(1,1),(2,2),(3,3),(7,7),(12,12),(17,17)] (fun x=>[(4,.int .i64 x.1)]) (fun x=>[(7,strOb x.2.1),(12,strOb x.2.2)]) (fun x=>d.late.length-x.1)
   (fun x=>x.1≤d.late.length∧x.2.1.length=d.s0.length∧x.2.2.length=d.s0.length∧(⟨((d.late.drop x.1).foldl putP x.2).1,((d.late.drop x.1).foldl putP x.2).2,[]⟩:DK)=R) (0,(d.s0,d.s1)) (by simp[hR,g3]) ?_ (he:=by simp[obOf])
  rintro⟨i,a,b⟩ ⟨hi,ha,hb,hd⟩
  simp only at hi ha hb hd
  cases hr:d.late.drop i with
  | nil =>
   have:=dropn hr
   rw[hr,List.foldl_nil]at hd
   have hie:i=d.late.length:=by omega
   subst hie
   simp -implicitDefEqProofs [obOf,← hd,ha,hb]
   exact g3
  | cons w q =>
   obtain⟨k1,e0,e1,k3⟩:=dropc hr
   rw[hr,List.foldl_cons]at hd
   have hw:=thereB_iff.1 (g7 w (List.mem_of_getElem? e1))
   obtain⟨w1,w2,w3⟩:=hw
   have hli:(i:Int)<d.late.length:=by omega
   have e2:=i64w ((i:Int)+1) (by omega) (by omega)
   have hl:(putP (a,b) w).1.length=a.length∧(putP (a,b) w).2.length=b.length:=putP_len (a,b) w
   rcases w1 with w1 | w1
   ·simp -implicitDefEqProofs [obOf,LT.row,k1,e0,hli,e2,w1,w2.1,w2.2,strOb]
    refine⟨by omega,nx (i+1,putP (a,b) w) [(1,1),(2,2),(3,3),(7,7),(12,12),(17,17)] ⟨by simp only;omega,by simp only;omega,by simp only;omega,by simp only[k3];exact hd⟩ (by simp only;omega) (h4:=?_)⟩
    have hla:w.la.toNat<a.length:=by omega
    simp[obOf,putP,w1,qav,hla]
   ·simp -implicitDefEqProofs [obOf,LT.row,k1,e0,hli,e2,w1,w2.1,strOb]
    refine⟨by omega,by omega,nx (i+1,putP (a,b) w) [(1,1),(2,2),(3,3),(7,7),(12,12),(17,17)] ⟨by simp only;omega,by simp only;omega,by simp only;omega,by simp only[k3];exact hd⟩ (by simp only;omega) (h4:=?_)⟩
    have hla:w.la.toNat<b.length:=by omega
    simp[obOf,putP,w1,qav,hla]
theorem sFlushC (d:DK) (h:DkT d):CV prog 81 [.agg d.row] (.agg (qbm d).row):=by
 obtain⟨R,hR⟩:∃ R,qbm d=R:=⟨_,rfl⟩
 rw[hR]
 refine CV.of_frz (sFlushK d h R hR) ?_ (hca:=by simp[DK.row]) (hcv:=by simp[DK.row])
 rintro r L' (⟨rfl,rfl,rfl⟩ | ⟨rfl,hl,rfl⟩)
 ·refine⟨by simp,by simp,by simp,?_⟩
  simp only[qcf]
  exact impA_zd
 ·refine⟨by simp,by simp,by simp[clR,strOb,qav],?_⟩
  simp[qcf,DK.row,strOb,qap,hl]
  exact impA_ag (.cons (qaz _) (.cons (qaz _) (.cons (qby 3) .nil)))
theorem dWrite_T {d:DK} (h:DkT d) {side at':Int} {text:List UInt8} (ht:text.length≤1048576) (hl:d.late.length≤1048575):DkT (qbj d side at' text).1:=by
 unfold qbj
 split
 ·exact⟨by simp[zDK],by simp[zDK],by simp[zDK],by simp[zDK],by simp[zDK],by simp[zDK]⟩
 ·split
  ·exact h
  ·refine⟨h.l0,h.l1,by simp;omega,h.t0,h.t1,fun w hw=>?_⟩
   rcases List.mem_append.1 hw with hw | hw
   ·exact h.t2 w hw
   ·simp only[List.mem_cons,List.not_mem_nil,or_false]at hw
    subst hw;exact ht
def qat (d:DK) (at':Int) (text:List UInt8):DK×Bool :=
 if dOkB d=false then (zDK,false) else if 598<d.late.length then (d,false) else
 if (qbj d 0 at' text).2=false then ((qbj d 0 at' text).1,false) else qbj (qbj d 0 at' text).1 1 at' text
theorem sBlkWriteC (d:DK) (h:DkT d) (at':Int) (text:List UInt8) (ht:text.length≤1048576):CV prog 92 [.agg d.row,.int .i64 at',.str text] (.tup [.agg (qat d at' text).1.row,.bool (qat d at' text).2]):=by
 obtain⟨R,hR⟩:∃ R,qat d at' text=R:=⟨_,rfl⟩
 rw[hR]
 unfold qat at hR
 have c1:=sDiskOkC d h
 have c2:=sCopyC d h
 have c3:=sWriteC d h 0 at' text ht
 simp only[DK.row]at c1
 have h2:=h.l2
 refine CV.of_imp ?_ (hca:=by simp[DK.row]) (hcv:=by simp[DK.row])
 refine acx func92 [] ntmps92 rfl rfl rfl ?_
 simp -implicitDefEqProofs [DK.row]
 refine c1.call ?_
 cases hok:dOkB d with
 | false =>
  rw[if_pos hok]at hR
  simp -implicitDefEqProofs [← hR]
  exact impA_tu (.cons impA_zd (.cons (qaz _) .nil))
 | true =>
  rw[if_neg (by simp[hok])]at hR
  by_cases hl:598<d.late.length
  ·rw[if_pos hl]at hR
   have hl':(598:Int)<d.late.length:=by omega
   simp only[DK.row]at c2
   simp -implicitDefEqProofs [hl']
   refine c2.call ?_
   simp -implicitDefEqProofs [← hR]
  ·rw[if_neg hl]at hR
   have hl':¬ (598:Int)<d.late.length:=by omega
   have hT:=dWrite_T (side:=0) (at':=at') (text:=text) h ht (by omega)
   have c4:=sWriteC (qbj d 0 at' text).1 hT 1 at' text ht
   generalize qbj d 0 at' text=x at *
   obtain⟨x,ok⟩:=x
   simp only[DK.row]at c3 c4 hR
   simp -implicitDefEqProofs [hl']
   refine c3.call ?_
   cases ok with
   | false =>
    rw[if_pos rfl]at hR
    simp -implicitDefEqProofs [← hR]
   | true =>
    rw[if_neg (by simp)]at hR
    simp -implicitDefEqProofs
    refine c4.call ?_
    simp -implicitDefEqProofs [← hR]
end Go.Av.F

end
section
namespace Go.Av.F
open Go Go.Av Go.Proofs Go.Proofs.Tryz
def deOb (l:List DE):Ob:=⟨3,l.map DE.row⟩
@[simp] theorem renL_deRow (ρ:Nat→Option Plc):renL ρ ∘ DE.row=DE.row:=by funext x;simp[DE.row]
@[simp] theorem renOb_deOb (ρ:Nat→Option Plc) (l:List DE):renOb ρ (deOb l)=deOb l:=by simp[deOb,renOb]
theorem de_one (e:DE):∀ x∈e.row,oneA x=true:=oneA_row3 e
theorem noL_de (l:List DE):∀ x∈l.map DE.row,noL x=true:=fun x hx=>by
 obtain⟨e,_,rfl⟩:=List.mem_map.1 hx
 simp[DE.row]
theorem cl_de (l:List DE):∀ x∈l.map DE.row,clL x=true:=fun x hx=>by
 obtain⟨e,_,rfl⟩:=List.mem_map.1 hx
 simp[DE.row]
theorem one_de (l:List DE):∀ x∈l.map DE.row,∀ y∈x,oneA y=true:=fun x hx y hy=>by
 obtain⟨e,_,rfl⟩:=List.mem_map.1 hx
 exact de_one e y hy
theorem tk_to {α β:Type} (f:α→β) (l:List α) (k:Nat):(l.map f).take k=(l.take k).map f:=(List.map_take).symm
theorem dr_to {α β:Type} (f:α→β) (l:List α) (k:Nat):((l.map f).drop k).take (l.length-k)=(l.drop k).map f:=by
 rw[List.take_of_length_le (by simp),List.map_drop]
theorem clR_de (l:List DE):clR (deOb l).els=true:=by simp[clR,deOb,DE.row]
theorem sECopyO (l:List DE) (hl:l.length≤1048576):ACall prog 78 [.lst 3 (l.map DE.row)] [] (fun r L'=>r=.sl 5 0 l.length∧L'=[(5,deOb l)]):=by
 refine acx func78 [] ntmps78 rfl rfl rfl ?_
 simp -implicitDefEqProofs [deOb]
 try omega
def qbz (l:List DE) (sum at':Int):List DE×Bool :=
 if qaf l=false then ([],false) else if deOkB ⟨sum,at',1⟩=false then (l,false) else
 if ddT l at'=true then match l[ddP l at']? with
  | some e=>if e.es≠sum∨e.ec=1000 then (l,false) else (l.set (ddP l at') ⟨e.es,e.ea,e.ec+1⟩,true)
  | none=>(l,false)
 else if l.length=48 then (l,false) else (l.take (ddP l at')++⟨sum,at',1⟩::l.drop (ddP l at'),true)
theorem ddP_le (l:List DE) (a:Int):ddP l a≤l.length:=bsK_len _ l
theorem sAddK (l:List DE) (sum at':Int) (hl:l.length≤1048576) (R:List DE×Bool) (hR:qbz l sum at'=R):ACall prog 106 [.lst 3 (l.map DE.row),.int .i64 sum,.int .i64 at'] [] (fun r L'=>(qaf l=false∧R=([],false)∧r=.tup [.nils,.bool false]∧L'=[]) ∨
   (∃ id,(id=5∨id=77)∧r=.tup [.sl id 0 R.1.length,.bool R.2]∧L'=[(id,deOb R.1)])):=by
 unfold qbz at hR
 have c1:=sDdtOkC l hl
 have co:=sECopyO l hl
 have c2:=l5AtC l at' hl
 have c3:=sEntryC ⟨sum,at',1⟩
 simp only[DE.row]at c3
 have hk:=ddP_le l at'
 refine acx func106 [] ntmps106 rfl rfl rfl ?_
 simp -implicitDefEqProofs
 refine c1.call ?_
 cases hok:qaf l with
 | false =>
  rw[if_pos hok]at hR
  simp -implicitDefEqProofs [← hR,hok]
 | true =>
  rw[if_neg (by simp[hok])]at hR
  simp -implicitDefEqProofs
  refine qac [] (by kernel_rfl) co (by simp) (by simp) trivial (by simp) (by simp) ?_
  rintro r L' ⟨rfl,rfl⟩
  refine⟨[(5,5)],⟨by simp,by simp,by simp,by simp,by simp⟩,?_⟩
  simp only[qae]
  simp -implicitDefEqProofs
  refine c2.view (by simp[vwOk,mtA,deOb,qap]) ?_
  simp -implicitDefEqProofs
  refine c3.call ?_
  cases hde:deOkB ⟨sum,at',1⟩with
  | false =>
   rw[if_pos hde]at hR
   simp -implicitDefEqProofs [← hR]
  | true =>
   rw[if_neg (by simp[hde])]at hR
   simp -implicitDefEqProofs
   cases hT:ddT l at' with
   | true =>
    rw[if_pos hT]at hR
    obtain⟨e,he,hea⟩:=ddT_some hT
    have hkl:=(List.getElem?_eq_some_iff.1 he).1
    have hk0:=(List.getElem?_eq_some_iff.1 he).2
    rw[he]at hR
    have hc:=(ddt_ec hok).2 e (List.mem_of_getElem? he)
    have e2:=i64w (e.ec+1) (by omega) (by omega)
    simp only at hR
    simp -implicitDefEqProofs [deOb,hkl,hk0,DE.row,e2]
    refine⟨fun q1=>⟨fun q2=>?_,fun q2=>?_⟩,fun q1=>?_⟩
    ·rw[if_pos (.inr q2)]at hR
     subst hR;exact⟨rfl,rfl,rfl⟩
    ·rw[if_neg (fun h=>h.elim (fun h=>h q1) q2)]at hR
     subst hR
     simp[DE.row,List.map_set]
    ·rw[if_pos (.inl q1)]at hR
     subst hR;exact⟨rfl,rfl,rfl⟩
   | false =>
    rw[if_neg (by simp[hT])]at hR
    by_cases h48:l.length=48
    ·rw[if_pos h48]at hR
     have h48':(l.length:Int)=48:=by omega
     simp -implicitDefEqProofs [← hR,h48']
    ·rw[if_neg h48]at hR
     have h48':¬ (l.length:Int)=48:=by omega
     have cd:=sECopyO (l.drop (ddP l at')) (by simp;omega)
     simp -implicitDefEqProofs [h48']
     refine⟨⟨hk,rfl⟩,?_⟩
     refine callA_vw [] (by kernel_rfl) cd (by simp[vwOk,mtA,deOb,hk];exact⟨List.take_of_length_le (by simp),fun x hx=>cl_de l x (List.mem_of_mem_drop hx)⟩) (by simp) trivial (by simp) (by simp) ?_
     rintro r L' ⟨rfl,rfl⟩
     refine⟨by simp,by simpa [deOb]using noL_de (l.drop (ddP l at')),[(5,67)],⟨by simp,by simp,by simp,by simp,by simp⟩,?_⟩
     simp only[qae]
     simp -implicitDefEqProofs [deOb]
     rw[dr_to,tk_to]
     subst hR
     have e1:List.take (ddP l at'+1) (List.map DE.row (List.take (ddP l at') l)++[[AV.int IntKind.i64 sum,AV.int IntKind.i64 at',AV.int IntKind.i64 1]])=List.map DE.row (List.take (ddP l at') l)++[[AV.int IntKind.i64 sum,AV.int IntKind.i64 at',AV.int IntKind.i64 1]]:=List.take_of_length_le (by simp;omega)
     rw[e1]
     refine⟨hk,⟨hk,by omega⟩,⟨by omega,by omega,one_de _⟩,by simp[DE.row],by simp;omega,rfl⟩
theorem sAddC (l:List DE) (sum at':Int) (hl:l.length≤1048576):CV prog 106 [.lst 3 (l.map DE.row),.int .i64 sum,.int .i64 at'] (.tup [.lst 3 ((qbz l sum at').1.map DE.row),.bool (qbz l sum at').2]):=by
 obtain⟨R,hR⟩:∃ R,qbz l sum at'=R:=⟨_,rfl⟩
 rw[hR]
 refine CV.of_frz (sAddK l sum at' hl R hR) ?_ (hca:=by simp) (hcv:=by simp)
 rintro r L' (⟨_,rfl,rfl,rfl⟩ | ⟨id,hid,rfl,rfl⟩)
 ·refine⟨by simp,by simp,by simp,?_⟩
  simp only[qcf]
  exact impA_tu (.cons (qby 3) (.cons (qaz _) .nil))
 ·rcases hid with rfl | rfl
  all_goals
   refine⟨by simp,by simp,by simpa using clR_de _,?_⟩
   simp[qcf,deOb,qap]
def qbg (l:List DE) (at':Int):List DE×Bool :=
 if qaf l=false then ([],false) else if ddT l at'=false then (l,false) else
 match l[ddP l at']? with
 | some e=>if e.ec=1 then (l.take (ddP l at')++l.drop (ddP l at'+1),true) else (l.set (ddP l at') ⟨e.es,e.ea,e.ec-1⟩,true)
 | none=>(l,false)
theorem sDropK (l:List DE) (at':Int) (hl:l.length≤1048576) (R:List DE×Bool) (hR:qbg l at'=R):ACall prog 107 [.lst 3 (l.map DE.row),.int .i64 at'] [] (fun r L'=>(qaf l=false∧R=([],false)∧r=.tup [.nils,.bool false]∧L'=[]) ∨
   (∃ id,(id=5∨id=47)∧r=.tup [.sl id 0 R.1.length,.bool R.2]∧L'=[(id,deOb R.1)])):=by
 unfold qbg at hR
 have c1:=sDdtOkC l hl
 have co:=sECopyO l hl
 have c2:=l5AtC l at' hl
 have hk:=ddP_le l at'
 refine acx func107 [(9,[zI 0,zI 1,zI 2,zI 4,zI 5,zI 6,zI 7,zI 3,zI 8,zI 9])] ntmps107 rfl rfl rfl ?_
 simp -implicitDefEqProofs
 refine c1.call ?_
 cases hok:qaf l with
 | false =>
  rw[if_pos hok]at hR
  simp -implicitDefEqProofs [← hR,hok]
 | true =>
  rw[if_neg (by simp[hok])]at hR
  simp -implicitDefEqProofs
  refine qac [] (by kernel_rfl) co (by simp) (by simp) trivial (by simp) (by simp) ?_
  rintro r L' ⟨rfl,rfl⟩
  refine⟨[(5,5)],⟨by simp,by simp,by simp,by simp,by simp⟩,?_⟩
  simp only[qae]
  simp -implicitDefEqProofs
  refine c2.view (by simp[vwOk,mtA,deOb,qap]) ?_
  cases hT:ddT l at' with
  | false =>
   rw[if_pos hT]at hR
   simp -implicitDefEqProofs [← hR]
  | true =>
   rw[if_neg (by simp[hT])]at hR
   obtain⟨e,he,hea⟩:=ddT_some hT
   have hkl:=(List.getElem?_eq_some_iff.1 he).1
   have hk0:=(List.getElem?_eq_some_iff.1 he).2
   rw[he]at hR
   simp only at hR
   have hc:=(ddt_ec hok).2 e (List.mem_of_getElem? he)
   have e2:=i64w (e.ec-1) (by omega) (by omega)
   have e3:=i64w ((ddP l at':Int)+1) (by omega) (by omega)
   have cd:=sECopyO (l.take (ddP l at')) (by simp;omega)
   rw[← tk_to]at cd
   simp -implicitDefEqProofs [deOb,hkl,hk0,DE.row,e2,e3]
   refine⟨fun q1=>⟨hk,⟨by omega,by omega⟩,?_⟩,fun q1=>?_⟩
   ·rw[if_pos (by omega)]at hR
    refine qac [] (by kernel_rfl) cd (by simp) (by simpa using fun x hx=>cl_de l x (List.mem_of_mem_take hx)) trivial (by simp) (by simp) ?_
    rintro r L' ⟨rfl,rfl⟩
    refine⟨[(5,42)],⟨by simp,by simp,by simp,by simp,by simp⟩,?_⟩
    simp only[qae]
    simp -implicitDefEqProofs [deOb]
    subst hR
    rw[dr_to,tk_to]
    have e4:min (ddP l at') l.length=ddP l at':=by omega
    rw[e4,List.take_of_length_le (by simp;omega)]
    exact⟨⟨by omega,one_de _⟩,by simp,by simp;omega,rfl⟩
   ·rw[if_neg (by omega)]at hR
    subst hR
    simp[DE.row,List.map_set]
theorem sDropC (l:List DE) (at':Int) (hl:l.length≤1048576):CV prog 107 [.lst 3 (l.map DE.row),.int .i64 at'] (.tup [.lst 3 ((qbg l at').1.map DE.row),.bool (qbg l at').2]):=by
 obtain⟨R,hR⟩:∃ R,qbg l at'=R:=⟨_,rfl⟩
 rw[hR]
 refine CV.of_frz (sDropK l at' hl R hR) ?_ (hca:=by simp) (hcv:=by simp)
 rintro r L' (⟨_,rfl,rfl,rfl⟩ | ⟨id,hid,rfl,rfl⟩)
 ·refine⟨by simp,by simp,by simp,?_⟩
  simp only[qcf]
  exact impA_tu (.cons (qby 3) (.cons (qaz _) .nil))
 ·rcases hid with rfl | rfl
  all_goals
   refine⟨by simp,by simp,by simpa using clR_de _,?_⟩
   simp[qcf,deOb,qap]
end Go.Av.F

end
section
namespace Go.Av.F
open Go Go.Av Go.Proofs Go.Proofs.Tryz
def dec (n:Int):List UInt8:=ddig n.toNat []
theorem qax (n:Int) (h:n<1000000000):(dec n).length≤9:=by
 unfold dec
 rw[ddig_dec]
 have:=dec_len n.toNat 9 (by omega) (by omega)
 simpa using this
theorem sdecI (n:Int) (h0:0≤n) (h:n<1000000000):CV prog 112 [.int .i64 n] (.str (dec n)):=by
 have:=sdecC n.toNat (by omega)
 have e:((n.toNat:Nat):Int)=n:=by omega
 rw[e]at this
 exact this
theorem ptOk_b {p:PT} (h:ptOkB p=true):0≤p.pa∧p.pa<120∧0≤p.ps∧p.ps<65521∧0≤p.pb∧p.pb≤1000000:=by
 unfold ptOkB at h
 split at h
 ·simp only[Bool.and_eq_true,decide_eq_true_eq]at h
  omega
 ·simp only[Bool.and_eq_true,decide_eq_true_eq]at h
  omega
def ptText (p:PT):List UInt8:=if ptOkB p=false then [] else if p.pa=0 then [45] else dec p.pa++(46::(dec p.ps++(46::dec p.pb)))
theorem ptText_len (p:PT):(ptText p).length≤29:=by
 unfold ptText
 split
 ·simp
 ·rename_i h
  have hb:=ptOk_b (p:=p) (by simpa using h)
  split
  ·simp
  ·have h1:=qax p.pa (by omega)
   have h2:=qax p.ps (by omega)
   have h3:=qax p.pb (by omega)
   simp;omega
theorem sPtrTextC (p:PT):CV prog 123 [.agg p.row] (.str (ptText p)):=by
 obtain⟨R,hR⟩:∃ R,ptText p=R:=⟨_,rfl⟩
 rw[hR]
 have c1:=sPtrOkC p
 simp only[PT.row]at c1
 unfold ptText at hR
 refine cvx func123 [(5,[zI 0,zJ 1 [1] [],zJ 4 [] [1],zJ 5 [1] [1],zJ 9 [] [1],zJ 10 [1] [1],zJ 2 [] [1],zJ 3 [] [1],zJ 6 [] [1],zJ 7 [] [1],zJ 8 [] [1],zI 11,zI 12,zI 13])] ntmps123 rfl rfl rfl ?_ (hca:=by simp[PT.row])
 simp -implicitDefEqProofs [PT.row]
 refine c1.call ?_
 cases hok:ptOkB p with
 | false =>
  rw[if_pos hok]at hR
  simp -implicitDefEqProofs [← hR]
 | true =>
  rw[if_neg (by simp[hok])]at hR
  have hb:=ptOk_b hok
  by_cases h0:p.pa=0
  ·rw[if_pos h0]at hR
   simp -implicitDefEqProofs [h0,← hR]
  ·rw[if_neg h0]at hR
   have d1:=sdecI p.pa (by omega) (by omega)
   have d2:=sdecI p.ps (by omega) (by omega)
   have d3:=sdecI p.pb (by omega) (by omega)
   have l1:=qax p.pa (by omega)
   have l2:=qax p.ps (by omega)
   have l3:=qax p.pb (by omega)
   simp -implicitDefEqProofs [h0]
   refine d1.call ?_
   simp -implicitDefEqProofs
   refine⟨by omega,?_⟩
   refine d2.call ?_
   simp -implicitDefEqProofs
   refine⟨by omega,by omega,?_⟩
   refine d3.call ?_
   simp -implicitDefEqProofs [← hR]
   omega
def ptsText:List PT→Bool→Option (List UInt8)
 | [],_=>some []
 | p::r,first=>if ptOkB p=false then none else (ptsText r false).map fun t=>(if first=true then [] else [32])++(ptText p++t)
def mapText (m:List PT):List UInt8:=(ptsText m true).getD []
theorem sCoreMapC (m:List PT) (h8:m.length=8):CV prog 102 [.agg (m.flatMap PT.row)] (.str (mapText m)):=by
 obtain⟨R,hR⟩:∃ R,mapText m=R:=⟨_,rfl⟩
 rw[hR]
 refine cvx func102 [] ntmps102 rfl rfl rfl ?_ (hca:=by simp[clL_pts])
 simp -implicitDefEqProofs [sum3 h8]
 refine ev_lp (X:=Nat×List UInt8) [1,2,3,4] [(1,1)] (fun x=>[(3,.str x.2),(4,.int .i64 x.1)]) (fun _=>[]) (fun x=>8-x.1) (fun x=>x.1≤8∧x.2.length≤30 * x.1∧((ptsText (m.drop x.1) (decide (x.1=0))).map (x.2++·)).getD []=R) (0,[]) (by simp[← hR,mapText]) ?_ (he:=by simp[obOf])
 rintro⟨i,t⟩ ⟨hi,hl,hd⟩
 simp only at hi hl hd
 cases hr:m.drop i with
 | nil =>
  have:=dropn hr
  rw[hr]at hd
  have hie:i=8:=by omega
  subst hie
  simp only[ptsText,Option.map_some,List.append_nil,Option.getD_some]at hd
  simp -implicitDefEqProofs [hd]
 | cons p q =>
  obtain⟨k1,e0,e1,k3⟩:=dropc hr
  rw[hr]at hd
  simp only[ptsText]at hd
  have hli:(i:Int)<8:=by omega
  have hi8:i<8:=by omega
  have e2:=i64w ((i:Int)+1) (by omega) (by omega)
  have c1:=sPtrOkC p
  have c2:=sPtrTextC p
  have hpl:=ptText_len p
  have hf:=flat_at e1
  simp only[PT.row]at c1 c2
  simp -implicitDefEqProofs [obOf,hli,hf]
  refine⟨by omega,?_⟩
  refine c1.call ?_
  cases hok:ptOkB p with
  | false =>
   rw[if_pos hok]at hd
   simp only[Option.map_none,Option.getD_none]at hd
   simp -implicitDefEqProofs [← hd]
  | true =>
   rw[if_neg (by simp[hok])]at hd
   by_cases h0:i=0
   ·subst h0
    have hf0:List.take 3 (List.flatMap PT.row m)=p.row:=by simpa using hf
    simp only[PT.row]at hf0
    simp -implicitDefEqProofs [hf0]
    refine c2.call ?_
    simp -implicitDefEqProofs
    refine⟨by omega,nx (1,t++ptText p) [(1,1)] ⟨by simp only;omega,by simp;omega,by simp only[k3];simpa [Option.map_map,Function.comp_def]using hd⟩ (by simp only;omega) (h4:=by simp[obOf])⟩
   ·have h0':(0:Int)<i:=by omega
    simp -implicitDefEqProofs [hf,h0]
    intro _
    refine⟨by omega,hli,by omega,?_⟩
    refine c2.call ?_
    simp -implicitDefEqProofs [e2]
    have hd':decide (i=0)=false:=by simpa using h0
    rw[hd']at hd
    refine⟨by omega,nx (i+1,t++(32::ptText p)) [(1,1)] ⟨by simp only;omega,by simp;omega,by simp only[k3];simpa [Option.map_map,Function.comp_def]using hd⟩ (by simp only;omega) (h4:=by simp[obOf])⟩
end Go.Av.F

end
section
namespace Go.Av.F
open Go Go.Av Go.Proofs Go.Proofs.Tryz
def fromT (s:List UInt8):List UInt8:=if s=[] then [45] else s
theorem sFromC (s:List UInt8):CV prog 124 [.str s] (.str (fromT s)):=by
 unfold fromT
 refine cvx func124 [] ntmps124 rfl rfl rfl ?_
 by_cases h:s=[]
 ·simp -implicitDefEqProofs [h]
 ·simp -implicitDefEqProofs [h]
def rootSet (s:CS):List UInt8:=10::(s.name++(32::(dec s.kind++(32::(fromT s.frm++(32::ptText s.home))))))
def rootSets:List CS→Option (List UInt8)
 | []=>some []
 | s::r=>if csOkB s=false then none else (rootSets r).map (rootSet s++·)
def rootParts:List PT→Option (List UInt8)
 | []=>some []
 | p::r=>if qbb p=false then none else (rootParts r).map ((10::46::32::ptText p)++·)
def qbh (c:CO):List UInt8:=((rootSets c.sets).bind fun t=>(rootParts c.parts).map fun u=>[114,111,111,116]++(t++u)).getD []
theorem cs_kind {s:CS} (h:csOkB s=true):1≤s.kind∧s.kind≤2:=by
 simp only[csOkB,Bool.and_eq_true,decide_eq_true_eq]at h
 exact h.1.1.2
theorem cs_ones (s:CS):∀ x∈s.row,oneA x=true:=fun x hx=>by
 simp only[CS.row,List.mem_cons,List.mem_append,List.mem_flatMap,PT.row,List.not_mem_nil,or_false]at hx
 rcases hx with rfl | rfl | rfl | ⟨p,_,hp⟩ | h | rfl
 ·rfl
 ·rfl
 ·rfl
 ·rcases hp with rfl | rfl | rfl <;> rfl
 ·rcases h with rfl | rfl | rfl <;> rfl
 ·rfl
theorem fromT_len (s:List UInt8):(fromT s).length≤s.length+1:=by unfold fromT;split <;> simp
theorem rootSet_len {s:CS} (h:csOkB s=true):(rootSet s).length≤64:=by
 have h1:=csOk_nm h
 have h2:=cs_kind h
 have h3:=qax s.kind (by omega)
 have h4:=fromT_len s.frm
 have h5:=ptText_len s.home
 simp[rootSet];omega
theorem sRootC (c:CO) (h:CoT c):CV prog 103 [.agg c.row] (.str (qbh c)):=by
 obtain⟨R,hR⟩:∃ R,qbh c=R:=⟨_,rfl⟩
 rw[hR]
 have hs:=h.sets
 have hp:=h.parts
 refine cvx func103 [(8,[zI 0,zI 1,zI 2,zJ 3 [5] [],zI 4,zI 5,zJ 6 [] [5],zJ 7 [5] [5],zJ 11 [] [5],zJ 12 [5] [5],zJ 16 [] [5],zJ 17 [5] [5],zJ 8 [] [5],zJ 9 [] [5],zJ 10 [] [5],zJ 13 [] [5],zJ 14 [] [5],zJ 15 [] [5],zJ 18 [] [5],zI 19,zI 20])] ntmps103 rfl rfl rfl ?_ (hca:=by simp[CO.row])
 simp -implicitDefEqProofs [CO.row]
 refine ev_lp (X:=Nat×List UInt8) [1,2,3,4] [(1,1)] (fun x=>[(3,.str x.2),(4,.int .i64 x.1)]) (fun _=>[]) (fun x=>c.sets.length-x.1) (fun x=>x.1≤c.sets.length∧x.2.length≤4+64 * x.1∧((rootSets (c.sets.drop x.1)).bind fun t=>(rootParts c.parts).map fun u=>x.2++(t++u)).getD []=R) (0,[114,111,111,116]) (by simp[← hR,qbh]) ?_ (he:=by simp[obOf])
 rintro⟨i,t⟩ ⟨hi,hl,hd⟩
 simp only at hi hl hd
 cases hr:c.sets.drop i with
 | nil =>
  have:=dropn hr
  rw[hr]at hd
  have hie:i=c.sets.length:=by omega
  subst hie
  simp only[rootSets,Option.bind_some,List.nil_append]at hd
  simp -implicitDefEqProofs [obOf]
  refine ev_lp (X:=Nat×List UInt8) [1,2,3,6] [(1,1)] (fun x=>[(3,.str x.2),(6,.int .i64 x.1)]) (fun _=>[]) (fun x=>c.parts.length-x.1) (fun x=>x.1≤c.parts.length∧x.2.length≤4+64 * c.sets.length+64 * x.1∧((rootParts (c.parts.drop x.1)).map fun u=>x.2++u).getD []=R) (0,t) (by simp[hd];omega) ?_ (he:=by simp[obOf])
  rintro⟨i,t⟩ ⟨hi,hl,hd⟩
  simp only at hi hl hd
  cases hr:c.parts.drop i with
  | nil =>
   have:=dropn hr
   rw[hr]at hd
   have hie:i=c.parts.length:=by omega
   subst hie
   simp only[rootParts,Option.map_some,List.append_nil,Option.getD_some]at hd
   simp -implicitDefEqProofs [obOf,hd]
  | cons p q =>
   obtain⟨k1,e0,e1,k3⟩:=dropc hr
   rw[hr]at hd
   simp only[rootParts]at hd
   have hli:(i:Int)<c.parts.length:=by omega
   have e2:=i64w ((i:Int)+1) (by omega) (by omega)
   have c1:=sPtrOkC p
   have c2:=sPtrTextC p
   have hpl:=ptText_len p
   simp only[PT.row]at c1 c2
   simp -implicitDefEqProofs [obOf,k1,e0,hli,PT.row]
   refine c1.call ?_
   cases hok:ptOkB p with
   | false =>
    rw[if_pos (show qbb p=false by simp[qbb,hok])]at hd
    simp only[Option.map_none,Option.getD_none]at hd
    simp -implicitDefEqProofs [← hd]
   | true =>
    by_cases h0:p.pa=0
    ·rw[if_pos (show qbb p=false by simp[qbb,hok,h0])]at hd
     simp only[Option.map_none,Option.getD_none]at hd
     simp -implicitDefEqProofs [← hd,h0,k1,e0,hli,PT.row]
    ·rw[if_neg (show ¬ qbb p=false by simp[qbb,hok,h0])]at hd
     simp -implicitDefEqProofs [h0,k1,e0,hli,PT.row]
     refine⟨by omega,?_⟩
     refine c2.call ?_
     simp -implicitDefEqProofs [e2]
     refine⟨by omega,nx (i+1,t++(10::46::32::ptText p)) [(1,1)] ⟨by simp only;omega,by simp;omega,by simp only[k3];simpa [Option.map_map,Function.comp_def]using hd⟩ (by simp only;omega) (h4:=by simp[obOf])⟩
 | cons s q =>
  obtain⟨k1,e0,e1,k3⟩:=dropc hr
  rw[hr]at hd
  simp only[rootSets]at hd
  have hsm:=List.mem_of_getElem? e1
  have hli:(i:Int)<c.sets.length:=by omega
  have e2:=i64w ((i:Int)+1) (by omega) (by omega)
  have h8:=h.m8 s hsm
  have c1:=sSetC s h8 (h.nm s hsm).1 (h.nm s hsm).2
  simp -implicitDefEqProofs [obOf,k1,e0,hli,qay s h8,cs_take s h8]
  refine⟨cs_ones s,?_⟩
  refine c1.call ?_
  cases hok:csOkB s with
  | false =>
   rw[if_pos hok]at hd
   simp only[Option.bind_none,Option.getD_none]at hd
   simp -implicitDefEqProofs [← hd]
  | true =>
   rw[if_neg (by simp[hok])]at hd
   have hk:=cs_kind hok
   have c2:=sdecI s.kind (by omega) (by omega)
   have c3:=sFromC s.frm
   have c4:=sPtrTextC s.home
   have hrl:=rootSet_len hok
   have hn:=csOk_nm hok
   have hdl:=qax s.kind (by omega)
   have hfl:=fromT_len s.frm
   have hpl:=ptText_len s.home
   simp -implicitDefEqProofs [cs_home s h8]
   refine⟨by omega,by omega,by omega,?_⟩
   refine c2.call ?_
   simp -implicitDefEqProofs
   refine⟨by omega,by omega,?_⟩
   refine c3.call ?_
   simp -implicitDefEqProofs
   refine⟨by omega,by omega,?_⟩
   refine c4.call ?_
   simp -implicitDefEqProofs [e2]
   refine⟨by omega,nx (i+1,t++rootSet s) [(1,1)] ⟨by simp only;omega,by simp only[List.length_append];omega,by simp only[k3];simpa [Option.map_map,Option.bind_map,Function.comp_def]using hd⟩ (by simp only;omega) (h4:=by simp[obOf,rootSet])⟩
def uberText (txg:Int) (p:PT):List UInt8:=if txg<1∨1000000<txg∨qbb p=false then [] else sealB (dec txg++(32::(ptText p++(32::dec txg))))
theorem sUberC (txg:Int) (p:PT):CV prog 104 [.int .i64 txg,.agg p.row] (.str (uberText txg p)):=by
 obtain⟨R,hR⟩:∃ R,uberText txg p=R:=⟨_,rfl⟩
 rw[hR]
 unfold uberText at hR
 have c1:=sPtrOkC p
 have c2:=sPtrTextC p
 have hpl:=ptText_len p
 simp only[PT.row]at c1 c2
 refine cvx func104 [(3,[zI 0,zJ 3 [3] [],zJ 7 [] [3],zJ 1 [] [3],zJ 2 [] [3],zI 4,zI 5,zI 6,zI 8,zI 9,zI 10,zI 11])] ntmps104 rfl rfl rfl ?_ (hca:=by simp[PT.row])
 by_cases h1:txg<1
 ·rw[if_pos (.inl h1)]at hR
  simp -implicitDefEqProofs [PT.row,h1,← hR]
 by_cases h2:1000000<txg
 ·rw[if_pos (.inr (.inl h2))]at hR
  simp -implicitDefEqProofs [PT.row,h1,h2,← hR]
 simp -implicitDefEqProofs [PT.row,h1,h2]
 refine c1.call ?_
 cases hok:ptOkB p with
 | false =>
  rw[if_pos (.inr (.inr (by simp[qbb,hok])))]at hR
  simp -implicitDefEqProofs [← hR]
 | true =>
  by_cases h0:p.pa=0
  ·rw[if_pos (.inr (.inr (by simp[qbb,hok,h0])))]at hR
   simp -implicitDefEqProofs [← hR,h0]
  ·rw[if_neg (fun h=>h.elim h1 fun h=>h.elim h2 fun h=>by simp[qbb,hok,h0]at h)]at hR
   have d1:=sdecI txg (by omega) (by omega)
   have l1:=qax txg (by omega)
   have c3:=ssealC (dec txg++(32::(ptText p++(32::dec txg)))) (by simp[maxLen];omega)
   simp -implicitDefEqProofs [h0]
   refine d1.call ?_
   simp -implicitDefEqProofs
   refine⟨by omega,?_⟩
   refine c2.call ?_
   simp -implicitDefEqProofs
   refine⟨by omega,by omega,?_⟩
   refine d1.call ?_
   simp -implicitDefEqProofs
   refine⟨by omega,?_⟩
   refine c3.call ?_
   simp -implicitDefEqProofs [hR]
structure LR where
 txg:Int
 seq:Int
 op:BO
deriving DecidableEq,Inhabited
def LR.row (r:LR):List AV:=.int .i64 r.txg::.int .i64 r.seq::r.op.row
def lrOkB (r:LR):Bool:=decide (1≤r.txg) && decide (r.txg≤1000000) && decide (0≤r.seq) && decide (r.seq<8) && decide (r.op.kind=3) && nameB r.op.a && decide (r.op.b=[]) && decide (0≤r.op.i) && decide (r.op.i<8) && decide (r.op.text.length≤24)
def hexT (s:List UInt8):List UInt8:=if hexB s=[] then [45] else hexB s
def logText (r:LR):List UInt8:=if lrOkB r=false then [] else
 sealB (dec r.txg++(46::(dec r.seq++(32::(r.op.a++(32::(dec r.op.i++(32::(hexT r.op.text++(32::(dec r.txg++(46::dec r.seq))))))))))))
theorem sLogTextC (r:LR) (ha:r.op.a.length≤1048576) (ht:r.op.text.length≤1048576):CV prog 91 [.agg r.row] (.str (logText r)):=by
 obtain⟨R,hR⟩:∃ R,logText r=R:=⟨_,rfl⟩
 rw[hR]
 have hno:lrOkB r=false→R=[]:=fun h=>by rw[← hR];unfold logText;rw[if_pos h]
 have hbad:∀ b:Prop,[Decidable b]→¬ b→(lrOkB r=true→b)→R=[]:=fun b _ hb h=>hno (by
  cases e:lrOkB r with
  | false=>rfl
  | true=>exact absurd (h e) hb)
 have hsp:lrOkB r=true↔(1≤r.txg∧r.txg≤1000000)∧(0≤r.seq∧r.seq<8)∧r.op.kind=3∧nameB r.op.a=true∧r.op.b=[]∧(0≤r.op.i∧r.op.i<8)∧r.op.text.length≤24:=by
  simp only[lrOkB,Bool.and_eq_true,decide_eq_true_eq]
  grind
 have c1:=sName r.op.a ha
 have c2:=shexC r.op.text ht
 have hxl:=hexB_len r.op.text
 have hyes:lrOkB r=true→R=sealB (dec r.txg++(46::(dec r.seq++(32::(r.op.a++(32::(dec r.op.i++(32::(hexT r.op.text++(32::(dec r.txg++(46::dec r.seq)))))))))))):=fun h=>by
  rw[← hR];unfold logText;rw[if_neg (by simp[h])]
 refine cvx func91 [(7,[zI 0,zJ 1 [1] [],zJ 4 [] [1],zJ 5 [1] [1],zJ 2 [] [1],zJ 3 [] [1],zI 6,zI 7,zI 8]),(8,[zI 0,zI 1,zI 2,zJ 3 [3] [],zI 4,zI 5,zJ 6 [] [3],zJ 7 [3] [3],zJ 11 [] [3],zJ 14 [] [3],zJ 8 [] [3],zI 9,zI 10,zI 12,zI 13,zI 15,zI 16,zI 17])] ntmps91 rfl rfl rfl ?_ (hca:=by simp[LR.row,BO.row])
 simp -implicitDefEqProofs [LR.row,BO.row]
 refine⟨fun q1=>⟨fun q2=>⟨fun q3=>⟨fun q4=>⟨fun q5=>?_,fun q=>hbad _ q fun h=>(hsp.1 h).2.2.1⟩,fun q=>hbad _ (Int.not_lt.2 q) fun h=>(hsp.1 h).2.1.2⟩,fun q=>hbad _ (Int.not_le.2 q) fun h=>(hsp.1 h).2.1.1⟩,fun q=>hbad _ (Int.not_le.2 q) fun h=>(hsp.1 h).1.2⟩,fun q=>hbad _ (Int.not_le.2 q) fun h=>(hsp.1 h).1.1⟩
 refine c1.call ?_
 cases hn:nameB r.op.a with
 | false =>
  have:=hno (by cases e:lrOkB r with
   | false=>rfl
   | true=>exact absurd (hsp.1 e).2.2.2.1 (by simp[hn]))
  simp -implicitDefEqProofs [this]
 | true =>
  simp -implicitDefEqProofs
  refine⟨fun q6=>⟨fun q7=>⟨fun q8=>⟨fun q=>hbad (r.op.text.length≤24) (by omega) fun h=>(hsp.1 h).2.2.2.2.2.2,fun q9=>?_⟩,fun q=>hbad _ (Int.not_lt.2 q) fun h=>(hsp.1 h).2.2.2.2.2.1.2⟩,fun q=>hbad _ (Int.not_le.2 q) fun h=>(hsp.1 h).2.2.2.2.2.1.1⟩,fun q=>hbad _ q fun h=>(hsp.1 h).2.2.2.2.1⟩
  have hy:=hyes (hsp.2 ⟨⟨q1,q2⟩,⟨q3,q4⟩,q5,hn,q6,⟨q7,q8⟩,by omega⟩)
  have d1:=sdecI r.txg (by omega) (by omega)
  have d2:=sdecI r.seq (by omega) (by omega)
  have d3:=sdecI r.op.i (by omega) (by omega)
  have l1:=qax r.txg (by omega)
  have l2:=qax r.seq (by omega)
  have l3:=qax r.op.i (by omega)
  have hna:r.op.a.length≤6:=by
   simp only[nameB,Bool.and_eq_true,decide_eq_true_eq]at hn
   exact hn.2
  refine c2.call ?_
  have hxT:hexB r.op.text=[]∨hexB r.op.text≠[]:=by cases hexB r.op.text <;> simp
  rcases hxT with hx | hx
  ·have he:hexT r.op.text=[45]:=by simp[hexT,hx]
   rw[he]at hy
   have c3:=ssealC (dec r.txg++(46::(dec r.seq++(32::(r.op.a++(32::(dec r.op.i++(32::([45]++(32::(dec r.txg++(46::dec r.seq)))))))))))) (by simp[maxLen];omega)
   rw[← hy]at c3
   simp -implicitDefEqProofs [hx]
   refine d1.call ?_
   simp -implicitDefEqProofs
   refine⟨by omega,?_⟩
   refine d2.call ?_
   simp -implicitDefEqProofs
   refine⟨by omega,by omega,by omega,by omega,?_⟩
   refine d3.call ?_
   simp -implicitDefEqProofs
   refine⟨by omega,by omega,by omega,by omega,by omega,?_⟩
   first
    | (refine c3.call ?_;simp -implicitDefEqProofs)
    | (simp only[List.cons_append,List.nil_append,List.append_assoc]at c3;refine c3.call ?_;simp -implicitDefEqProofs)
  ·have he:hexT r.op.text=hexB r.op.text:=by simp[hexT,hx]
   rw[he]at hy
   have c3:=ssealC (dec r.txg++(46::(dec r.seq++(32::(r.op.a++(32::(dec r.op.i++(32::(hexB r.op.text++(32::(dec r.txg++(46::dec r.seq)))))))))))) (by simp[maxLen];omega)
   rw[← hy]at c3
   simp -implicitDefEqProofs [hx]
   refine d1.call ?_
   simp -implicitDefEqProofs
   refine⟨by omega,?_⟩
   refine d2.call ?_
   simp -implicitDefEqProofs
   refine⟨by omega,by omega,by omega,by omega,?_⟩
   refine d3.call ?_
   simp -implicitDefEqProofs
   refine⟨by omega,by omega,by omega,by omega,by omega,?_⟩
   first
    | (refine c3.call ?_;simp -implicitDefEqProofs)
    | (simp only[List.cons_append,List.nil_append,List.append_assoc]at c3;refine c3.call ?_;simp -implicitDefEqProofs)
end Go.Av.F

end
section
namespace Go.Av.F
open Go Go.Av Go.Proofs Go.Proofs.Tryz
def kcs (l:List CS):Ob:=⟨31,l.map CS.row⟩
def kpt (l:List PT):Ob:=⟨3,l.map PT.row⟩
def kin (l:List Int):Ob:=⟨1,l.map qaw⟩
@[simp] theorem renL_csRow (ρ:Nat→Option Plc):renL ρ ∘ CS.row=CS.row:=by funext x;exact renL_closed.renL_closedL ρ _ (cs_cl x)
@[simp] theorem renL_ptRow (ρ:Nat→Option Plc):renL ρ ∘ PT.row=PT.row:=by funext x;simp[PT.row]
@[simp] theorem renL_inRow (ρ:Nat→Option Plc):renL ρ ∘ qaw=qaw:=by funext x;simp[qaw]
@[simp] theorem renOb_kcs (ρ:Nat→Option Plc) (l:List CS):renOb ρ (kcs l)=kcs l:=by simp[kcs,renOb]
@[simp] theorem renOb_kpt (ρ:Nat→Option Plc) (l:List PT):renOb ρ (kpt l)=kpt l:=by simp[kpt,renOb]
@[simp] theorem renOb_kin (ρ:Nat→Option Plc) (l:List Int):renOb ρ (kin l)=kin l:=by simp[kin,renOb]
theorem qbk (l:List CS):clR (kcs l).els=true:=by simp[clR,kcs,cs_cl]
theorem clR_kpt (l:List PT):clR (kpt l).els=true:=by simp[clR,kpt,PT.row]
theorem clR_kin (l:List Int):clR (kin l).els=true:=by simp[clR,kin,qaw]
def coreA (c:CO) (a b e f:Nat):AV:=.agg [.int .i64 c.txg,.sl a 0 c.sets.length,.sl b 0 c.ddt.length,.sl e 0 c.parts.length,.bool c.dirty,.sl f 0 c.safe.length,.int .i64 c.logn]
theorem sKCopyO (c:CO) (h:CoT c):ACall prog 50 [.agg c.row] [] (fun r L'=>r=coreA c 8 12 17 22∧L'=[(8,kcs c.sets),(12,deOb c.ddt),(17,kpt c.parts),(22,kin c.safe)]):=by
 have h1:=h.sets
 have h2:=h.ddt
 have h3:=h.parts
 have h4:=h.safe
 have co:=sECopyO c.ddt h2
 refine acx func50 [] ntmps50 rfl rfl rfl ?_
 simp -implicitDefEqProofs [CO.row]
 refine⟨⟨by omega,fun x _=>cs_ones x⟩,?_⟩
 refine qac [] (by kernel_rfl) co (by simp) (by simpa using fun x hx=>cl_de c.ddt x hx) trivial (by simp) (by simp) ?_
 rintro r L' ⟨rfl,rfl⟩
 refine⟨[(5,12)],⟨by simp,by simp,by simp,by simp,by simp⟩,?_⟩
 simp only[qae]
 simp -implicitDefEqProofs [coreA,kcs,kpt,kin]
 exact⟨by omega,by omega⟩
theorem sKCopyC (c:CO) (h:CoT c):CV prog 50 [.agg c.row] (.agg c.row):=by
 refine CV.of_frz (sKCopyO c h) ?_ (hca:=by simp) (hcv:=by simp)
 rintro r L' ⟨rfl,rfl⟩
 refine⟨by simp,by simp,fun x hx=>by
  simp only[List.mem_cons,List.not_mem_nil,or_false]at hx
  rcases hx with rfl | rfl | rfl | rfl
  ·exact qbk _
  ·exact clR_de _
  ·exact clR_kpt _
  ·exact clR_kin _,?_⟩
 simp[qcf,CO.row,coreA,kcs,kpt,kin,deOb,qap]
theorem sHasC (l:List Int) (a:Int) (hl:l.length≤1048576):CV prog 99 [.lst 1 (l.map qaw),.int .i64 a] (.bool (l.contains a)):=by
 obtain⟨R,hR⟩:∃ R,l.contains a=R:=⟨_,rfl⟩
 rw[hR]
 refine cvx func99 [] ntmps99 rfl rfl rfl ?_ (hca:=by simp)
 simp -implicitDefEqProofs
 refine ev_lp (X:=Nat) [0,1,4,5] [] (fun i=>[(5,.int .i64 i)]) (fun _=>[]) (fun i=>l.length-i) (fun i=>i≤l.length∧(l.drop i).contains a=R) 0 (by simp[← hR]) ?_
 rintro i ⟨hi,hd⟩
 cases hr:l.drop i with
 | nil =>
  have:=dropn hr
  rw[hr]at hd
  have hie:i=l.length:=by omega
  subst hie
  simp -implicitDefEqProofs
  simpa using hd
 | cons x q =>
  obtain⟨k1,e0,e1,k3⟩:=dropc hr
  rw[hr]at hd
  have hli:(i:Int)<l.length:=by omega
  have e2:=i64w ((i:Int)+1) (by omega) (by omega)
  simp -implicitDefEqProofs [k1,e0,hli,e2,qaw]
  refine⟨fun q1=>?_,fun q1=>nx (i+1) [] ⟨by omega,?_⟩ (h4:=by simp)⟩
  ·rw[← hd];simp[q1]
  ·rw[k3,← hd]
   have:¬ a=x:=fun e=>q1 e.symm
   simp[this]
def freeB1 (c:CO) (a:Int):Bool:=!ddT c.ddt a && !c.safe.contains a
def freeR (c:CO):Nat→Int→List Int
 | 0,_=>[]
 | k+1,a=>(if freeB1 c a=true then [a] else [])++freeR c k (a+1)
def freeB (c:CO) (n:Int):List Int:=freeR c (n-13).toNat 13
theorem sFreeO (c:CO) (h:CoT c) (n:Int) (hn:n≤1048576):ACall prog 76 [.agg c.row,.int .i64 n] [] (fun r L'=>r=.sl 900 0 (freeB c n).length∧L'=[(900,kin (freeB c n))]):=by
 obtain⟨R,hR⟩:∃ R,freeB c n=R:=⟨_,rfl⟩
 rw[hR]
 have h2:=h.ddt
 have h4:=h.safe
 refine acx func76 [] ntmps76 rfl rfl rfl ?_
 simp -implicitDefEqProofs [CO.row]
 refine ev_lo (X:=Int×List Int) [1,2,5,6] [(2,2),(9,900)] (fun x=>[(5,.sl 900 0 x.2.length),(6,.int .i64 x.1)]) (fun x=>[(2,⟨7,[c.row]⟩),(900,kin x.2)]) (fun x=>(n-x.1).toNat) (fun x=>13≤x.1∧x.1≤1048577∧x.2.length≤x.1∧x.2++freeR c (n-x.1).toNat x.1=R) (13,[]) (by simp[← hR,freeB]) ?_ (he:=by simp[obOf,kin,CO.row])
 rintro⟨a,out⟩ ⟨ha,ha2,hl,hd⟩
 simp only at ha ha2 hl hd
 by_cases hlt:a<n
 ·obtain⟨k,hk⟩:∃ k,(n-a).toNat=k+1:=⟨(n-a).toNat-1,by omega⟩
  have hk2:(n-(a+1)).toNat=k:=by omega
  rw[hk]at hd
  simp only[freeR]at hd
  have c1:=l5AtC c.ddt a h2
  have c2:=sHasC c.safe a h4
  have e2:=i64w (a+1) (by omega) (by omega)
  simp -implicitDefEqProofs [hlt,CO.row]
  refine c1.call ?_
  cases ht:ddT c.ddt a with
  | true =>
   have hf:¬ freeB1 c a=true:=by simp[freeB1,ht]
   rw[if_neg hf,List.nil_append]at hd
   simp -implicitDefEqProofs [e2]
   exact nx (a+1,out) [(2,2),(900,900)] ⟨by simp only;omega,by simp only;omega,by simp only;omega,by simp only[hk2];exact hd⟩ (by simp only;omega) (h4:=by simp[obOf,kin])
  | false =>
   simp -implicitDefEqProofs
   refine c2.call ?_
   cases hs:c.safe.contains a with
   | true =>
    have hf:¬ freeB1 c a=true:=by simp only[freeB1,ht,hs];simp
    rw[if_neg hf,List.nil_append]at hd
    simp -implicitDefEqProofs [e2]
    exact nx (a+1,out) [(2,2),(900,900)] ⟨by simp only;omega,by simp only;omega,by simp only;omega,by simp only[hk2];exact hd⟩ (by simp only;omega) (h4:=by simp[obOf,kin])
   | false =>
    have hf:freeB1 c a=true:=by simp only[freeB1,ht,hs];rfl
    rw[if_pos hf]at hd
    simp -implicitDefEqProofs [e2,kin]
    refine⟨by omega,nx (a+1,out++[a]) [(2,2),(34,900)] ⟨by simp only;omega,by simp only;omega,by simp;omega,by simp only[hk2];simpa using hd⟩ (by simp only;omega) (h4:=by simp[obOf,qaw,qap])⟩
 ·have hk:(n-a).toNat=0:=by omega
  rw[hk]at hd
  simp only[freeR,List.append_nil]at hd
  simp -implicitDefEqProofs [hlt,← hd]
theorem sFreeC (c:CO) (h:CoT c) (n:Int) (hn:n≤1048576):CV prog 76 [.agg c.row,.int .i64 n] (.lst 1 ((freeB c n).map qaw)):=by
 refine CV.of_frz (sFreeO c h n hn) ?_ (hca:=by simp) (hcv:=by simp)
 rintro r L' ⟨rfl,rfl⟩
 refine⟨by simp,by simp,fun x hx=>by
  simp only[List.mem_cons,List.not_mem_nil,or_false]at hx
  rcases hx with rfl
  exact clR_kin _,?_⟩
 simp[qcf,kin,qap]
def mayB (c:CO) (n:Int):Bool:=decide (16<(freeB c n).length) && decide (32≤n-13-c.ddt.length-1) && decide (c.ddt.length<48)
theorem sMayC (c:CO) (h:CoT c) (n:Int) (hn:n≤1048576) (hn0:0≤n):CV prog 109 [.agg c.row,.int .i64 n] (.bool (mayB c n)):=by
 obtain⟨R,hR⟩:∃ R,mayB c n=R:=⟨_,rfl⟩
 rw[hR]
 unfold mayB at hR
 have h2:=h.ddt
 have c1:=sFreeC c h n hn
 generalize freeB c n=l at *
 simp only[CO.row]at c1
 have e1:=i64w (n-13) (by omega) (by omega)
 have e2:=i64w (n-13-(c.ddt.length:Int)) (by omega) (by omega)
 have e3:=i64w (n-13-(c.ddt.length:Int)-1) (by omega) (by omega)
 refine cvx func109 [] ntmps109 rfl rfl rfl ?_ (hca:=by simp)
 simp -implicitDefEqProofs [CO.row]
 refine c1.call ?_
 simp -implicitDefEqProofs [e1,e2,e3]
 subst hR
 refine⟨fun q1=>⟨fun q2=>?_,fun q2=>?_⟩,fun q1=>?_⟩
 ·have q1':16<l.length:=by omega
  simp only[q1',q2,decide_true,Bool.true_and]
  rw[decide_eq_decide];omega
 ·have q2':¬ 32≤n-13-(c.ddt.length:Int)-1:=by omega
  simp[q2']
 ·have q1':¬ 16<l.length:=by omega
  simp[q1']
def plP (l:List Int) (a:Int):Nat:=(l.takeWhile fun x=>decide (x<a)).length
def addB (l:List Int) (a:Int):List Int:=if a<13∨l.contains a=true then l else l.take (plP l a)++a::l.drop (plP l a)
theorem plP_le (l:List Int) (a:Int):plP l a≤l.length:=(List.takeWhile_prefix _).length_le
theorem sPlAddO (l:List Int) (a:Int) (hl:l.length≤1000000):ACall prog 105 [.sl 1000 0 l.length,.int .i64 a] [(1000,kin l)] (fun r L'=>∃ id,(id=1000∨id=41)∧r=.sl id 0 (addB l a).length∧L'=[(id,kin (addB l a))]):=by
 obtain⟨R,hR⟩:∃ R,addB l a=R:=⟨_,rfl⟩
 rw[hR]
 unfold addB at hR
 have c1:=sHasC l a (by omega)
 have hk:=plP_le l a
 refine acx func105 [] ntmps105 rfl rfl rfl ?_
 by_cases h1:a<13
 ·rw[if_pos (.inl h1)]at hR
  simp -implicitDefEqProofs [h1,← hR]
 simp -implicitDefEqProofs [h1]
 refine c1.view (by simp[vwOk,mtA,kin,qap]) ?_
 cases hc:l.contains a with
 | true =>
  rw[if_pos (.inr hc)]at hR
  simp -implicitDefEqProofs [← hR]
 | false =>
  rw[if_neg (by simp only[hc,h1];simp)]at hR
  simp -implicitDefEqProofs
  refine ev_lp (X:=Nat) [0,1,4,5] [(1000,1000)] (fun i=>[(5,.int .i64 i)]) (fun _=>[]) (fun i=>l.length-i) (fun i=>i≤l.length∧i+plP (l.drop i) a=plP l a) 0 (by simp) ?_ (he:=by simp[obOf])
  rintro i ⟨hi,hd⟩
  have fin:i=plP l a→List.take i l++a::List.drop i l=R:=fun e=>by rw[e];exact hR
  cases hr:l.drop i with
  | nil =>
   have:=dropn hr
   rw[hr]at hd
   have hie:i=l.length:=by omega
   have hf:=fin (by simpa [plP]using hd)
   subst hie
   simp -implicitDefEqProofs [obOf,kin]
   subst hf
   refine⟨by omega,?_,by simp⟩
   rw[qap,List.take_of_length_le (by simp)]
   simp[qaw,List.take_of_length_le]
  | cons x q =>
   obtain⟨k1,e0,e1,k3⟩:=dropc hr
   rw[hr]at hd
   have hli:(i:Int)<l.length:=by omega
   have e2:=i64w ((i:Int)+1) (by omega) (by omega)
   by_cases hx:x<a
   ·have hp:plP (x::q) a=plP q a+1:=by simp[plP,hx]
    simp -implicitDefEqProofs [obOf,kin,k1,e0,hli,e2,hx,qaw]
    exact nx (i+1) [(1000,1000)] ⟨by omega,by rw[k3];omega⟩ (h4:=by simp[obOf])
   ·have hp:plP (x::q) a=0:=by simp[plP,hx]
    have hf:=fin (by omega)
    simp -implicitDefEqProofs [obOf,kin,k1,e0,hli,e2,hx,qaw]
    rw[dr_to]
    have et:List.take (l.length-i) ((l.drop i).map qaw)=(l.drop i).map qaw:=List.take_of_length_le (by simp)
    have e5:List.take (i+1) (List.take i (List.map qaw l)++[[AV.int IntKind.i64 a]])=List.map qaw (List.take i l++[a]):=by
     rw[List.take_of_length_le (by simp;omega)];simp[qaw]
    rw[et,e5]
    have ho:∀ x∈(l.drop i).map qaw,∀ y∈x,oneA y=true:=fun x hx y hy=>by
     obtain⟨e,_,rfl⟩:=List.mem_map.1 hx
     simp only[qaw,List.mem_cons,List.not_mem_nil,or_false]at hy
     subst hy;rfl
    subst hf
    refine⟨by omega,⟨by omega,by omega,ho⟩,by omega,⟨by omega,by omega⟩,⟨by omega,by omega,ho⟩,by simp,by simp;omega⟩
end Go.Av.F

end
