/- Lemmas for the proof, no statement of the seat; no conditions. -/
import Derived.Test.YthgigdhkcffloaaGreatDoorLayAO
import Derived.Lib.SlicesCompact
set_option linter.unusedSimpArgs false
set_option linter.unusedVariables false
set_option linter.unnecessarySimpa false
set_option maxRecDepth 100000
section
namespace Go.Av.F
open Go Go.Av Go.Proofs Go.Proofs.Tryz
theorem addB_len (l:List Int) (a:Int):(addB l a).length≤l.length+1:=by
 unfold addB
 split
 ·omega
 ·have:=plP_le l a
  simp;omega
def addsB (l:List Int) (bs:List Int):List Int:=bs.foldl addB l
def reachB (c:CO) (root:Int):List Int:=addsB (addsB (addsB (addB [] root) (c.ddt.map DE.ea)) (c.sets.map fun s=>s.home.pa)) (c.parts.map PT.pa)
structure CoM (c:CO):Prop where
 sets:c.sets.length≤1000
 ddt:c.ddt.length≤1000
 parts:c.parts.length≤1000
theorem addsB_cons (l:List Int) (a:Int) (r:List Int):addsB l (a::r)=addsB (addB l a) r:=rfl
theorem addsB_nil (l:List Int):addsB l []=l:=rfl
theorem cs_hpa (s:CS) (h8:s.map.length=8):s.row[27]?=some (.int .i64 s.home.pa):=by
 have h:=cs_home s h8
 have h2:=congrArg (fun l:List AV=>l[0]?) h
 simp only[List.getElem?_take,List.getElem?_drop]at h2
 simpa [PT.row]using h2
theorem sPlAddN (l:List Int) (a:Int) (hl:l.length≤1000000):ACall prog 105 [.sl 1000 0 l.length,.int .i64 a] [(1000,kin l)] (fun r L'=>r=.sl 902 0 (addB l a).length∧L'=[(902,kin (addB l a))]):=by
 refine(sPlAddO l a hl).can ?_
 rintro r L' ⟨id,rfl | rfl,rfl,rfl⟩
 ·exact⟨[(1000,902)],by simp,by simp,by simp,by simp,by simp,by simp[obOf]⟩
 ·exact⟨[(41,902)],by simp,by simp,by simp,by simp,by simp,by simp[obOf]⟩
theorem sReachO (c:CO) (h:CoT c) (hm:CoM c) (root:Int):ACall prog 82 [.agg c.row,.int .i64 root] [] (fun r L'=>r=.sl 900 0 (reachB c root).length∧L'=[(900,kin (reachB c root))]):=by
 obtain⟨R,hR⟩:∃ R,reachB c root=R:=⟨_,rfl⟩
 rw[hR]
 unfold reachB at hR
 have h1:=hm.sets
 have h2:=hm.ddt
 have h3:=hm.parts
 refine acx func82 [] ntmps82 rfl rfl rfl ?_
 simp -implicitDefEqProofs [CO.row]
 refine qac [(1000,.whole 9)] (by kernel_rfl) (sPlAddN [] root (by simp)) (by simp) (by simp) (by simp[kin];exact qad rfl (by simp[clR])) (by simp) (by simp) ?_
 rintro r L' ⟨rfl,rfl⟩
 have hl0:=addB_len [] root
 simp only[List.length_nil]at hl0
 refine⟨[(902,902)],⟨by simp,by simp,by simp,by simp,by simp⟩,?_⟩
 simp only[qae]
 simp -implicitDefEqProofs
 refine ev_lo (X:=Nat×List Int) [2,5,6] [(2,2),(902,900)] (fun x=>[(5,.sl 900 0 x.2.length),(6,.int .i64 x.1)]) (fun x=>[(2,⟨7,[c.row]⟩),(900,kin x.2)]) (fun x=>c.ddt.length-x.1) (fun x=>x.1≤c.ddt.length∧x.2.length≤1+x.1∧addsB (addsB (addsB x.2 ((c.ddt.drop x.1).map DE.ea)) (c.sets.map fun s=>s.home.pa)) (c.parts.map PT.pa)=R) (0,(addB [] root)) ⟨by simp,by simp only;omega,by simpa using hR⟩ ?_ (he:=by simp[obOf,kin,CO.row])
 rintro⟨i,l⟩ ⟨hi,hl,hd⟩
 simp only at hi hl hd
 cases hr:c.ddt.drop i with
 | nil =>
  have:=dropn hr
  rw[hr]at hd
  have hie:i=c.ddt.length:=by omega
  subst hie
  simp only[List.map_nil,addsB_nil]at hd
  simp -implicitDefEqProofs [CO.row]
  refine ev_lo (X:=Nat×List Int) [2,5,7] [(2,2),(900,900)] (fun x=>[(5,.sl 900 0 x.2.length),(7,.int .i64 x.1)]) (fun x=>[(2,⟨7,[c.row]⟩),(900,kin x.2)]) (fun x=>c.sets.length-x.1) (fun x=>x.1≤c.sets.length∧x.2.length≤1001+x.1∧addsB (addsB x.2 ((c.sets.drop x.1).map (fun s:CS=>s.home.pa))) (c.parts.map PT.pa)=R) (0,l) ⟨by simp,by simp only;omega,by simpa using hd⟩ ?_ (he:=by simp[obOf,kin,CO.row])
  rintro⟨i,l⟩ ⟨hi,hl,hd⟩
  simp only at hi hl hd
  cases hr:c.sets.drop i with
  | nil =>
   have:=dropn hr
   rw[hr]at hd
   have hie:i=c.sets.length:=by omega
   subst hie
   simp only[List.map_nil,addsB_nil]at hd
   simp -implicitDefEqProofs [CO.row]
   refine ev_lo (X:=Nat×List Int) [2,5,8] [(2,2),(900,900)] (fun x=>[(5,.sl 900 0 x.2.length),(8,.int .i64 x.1)]) (fun x=>[(2,⟨7,[c.row]⟩),(900,kin x.2)]) (fun x=>c.parts.length-x.1) (fun x=>x.1≤c.parts.length∧x.2.length≤2001+x.1∧(addsB x.2 ((c.parts.drop x.1).map PT.pa))=R) (0,l) ⟨by simp,by simp only;omega,by simpa using hd⟩ ?_ (he:=by simp[obOf,kin,CO.row])
   rintro⟨i,l⟩ ⟨hi,hl,hd⟩
   simp only at hi hl hd
   cases hr:c.parts.drop i with
   | nil =>
    have:=dropn hr
    rw[hr]at hd
    have hie:i=c.parts.length:=by omega
    subst hie
    simp only[List.map_nil,addsB_nil]at hd
    simp -implicitDefEqProofs [← hd]
   | cons x q =>
    obtain⟨k1,e0,e1,k3⟩:=dropc hr
    rw[hr,List.map_cons,addsB_cons]at hd
    have hli:(i:Int)<c.parts.length:=by omega
    have e2:=i64w ((i:Int)+1) (by omega) (by omega)
    simp -implicitDefEqProofs [k1,e0,hli,CO.row,PT.row]
    refine qac [(1000,.whole 900)] (by kernel_rfl) (sPlAddN l x.pa (by omega)) (by simp) (by simp) (by simp[kin];exact qad rfl (clR_kin l)) (by simp) (by simp) ?_
    have hal:=addB_len l x.pa
    rintro r L' ⟨rfl,rfl⟩
    refine⟨[(902,902)],⟨by simp,by simp,by simp,by simp,by simp⟩,?_⟩
    simp only[qae]
    simp -implicitDefEqProofs [e2]
    exact nx (i+1,addB l x.pa) [(2,2),(902,900)] ⟨by simp only;omega,by simp only;omega,by simp only[← List.map_drop,k3];exact hd⟩ (by simp only;omega) (h4:=by simp[obOf,kin])
  | cons x q =>
   obtain⟨k1,e0,e1,k3⟩:=dropc hr
   rw[hr,List.map_cons,addsB_cons]at hd
   have hli:(i:Int)<c.sets.length:=by omega
   have e2:=i64w ((i:Int)+1) (by omega) (by omega)
   have h8:=h.m8 x (List.mem_of_getElem? e1)
   have hx27:x.row[27]?=some (.int .i64 x.home.pa):=cs_hpa x h8
   have hx27':=(List.getElem?_eq_some_iff.1 hx27).2
   simp -implicitDefEqProofs [k1,e0,hli,CO.row,qay x h8,hx27']
   refine qac [(1000,.whole 900)] (by kernel_rfl) (sPlAddN l x.home.pa (by omega)) (by simp) (by simp) (by simp[kin];exact qad rfl (clR_kin l)) (by simp) (by simp) ?_
   have hal:=addB_len l x.home.pa
   rintro r L' ⟨rfl,rfl⟩
   refine⟨[(902,902)],⟨by simp,by simp,by simp,by simp,by simp⟩,?_⟩
   simp only[qae]
   simp -implicitDefEqProofs [e2]
   exact nx (i+1,addB l x.home.pa) [(2,2),(902,900)] ⟨by simp only;omega,by simp only;omega,by simp only[← List.map_drop,k3];exact hd⟩ (by simp only;omega) (h4:=by simp[obOf,kin])
 | cons x q =>
  obtain⟨k1,e0,e1,k3⟩:=dropc hr
  rw[hr,List.map_cons,addsB_cons]at hd
  have hli:(i:Int)<c.ddt.length:=by omega
  have e2:=i64w ((i:Int)+1) (by omega) (by omega)
  simp -implicitDefEqProofs [k1,e0,hli,CO.row,DE.row]
  refine qac [(1000,.whole 900)] (by kernel_rfl) (sPlAddN l x.ea (by omega)) (by simp) (by simp) (by simp[kin];exact qad rfl (clR_kin l)) (by simp) (by simp) ?_
  have hal:=addB_len l x.ea
  rintro r L' ⟨rfl,rfl⟩
  refine⟨[(902,902)],⟨by simp,by simp,by simp,by simp,by simp⟩,?_⟩
  simp only[qae]
  simp -implicitDefEqProofs [e2]
  exact nx (i+1,addB l x.ea) [(2,2),(902,900)] ⟨by simp only;omega,by simp only;omega,by simp only[← List.map_drop,k3];exact hd⟩ (by simp only;omega) (h4:=by simp[obOf,kin])
theorem sReachC (c:CO) (h:CoT c) (hm:CoM c) (root:Int):CV prog 82 [.agg c.row,.int .i64 root] (.lst 1 ((reachB c root).map qaw)):=by
 refine CV.of_frz (sReachO c h hm root) ?_ (hca:=by simp) (hcv:=by simp)
 rintro r L' ⟨rfl,rfl⟩
 refine⟨by simp,by simp,fun x hx=>by
  simp only[List.mem_cons,List.not_mem_nil,or_false]at hx
  rcases hx with rfl
  exact clR_kin _,?_⟩
 simp[qcf,kin,qap]
end Go.Av.F

end
section
namespace Go.Av.F
open Go Go.Av Go.Proofs Go.Proofs.Tryz
def deText (e:DE):List UInt8:=dec e.es++(46::(dec e.ea++(46::dec e.ec)))
def desText:List DE→Bool→List UInt8
 | [],_=>[]
 | e::r,first=>(if first=true then [] else [32])++(deText e++desText r false)
def ddText (l:List DE):List UInt8:=if qaf l=true then desText l true else []
theorem deOk_b {e:DE} (h:deOkB e=true):0≤e.es∧e.es<65521∧1≤e.ea∧e.ea<120∧1≤e.ec∧e.ec≤1000:=by
 simp only[deOkB,Bool.and_eq_true,decide_eq_true_eq]at h
 omega
theorem ddt_de {l:List DE} (h:qaf l=true):∀ e∈l,deOkB e=true:=by
 simp only[qaf,Bool.and_eq_true]at h
 exact fun e he=>((qch h.2).1 e he).2
theorem deText_len {e:DE} (h:deOkB e=true):(deText e).length≤29:=by
 have hb:=deOk_b h
 have h1:=qax e.es (by omega)
 have h2:=qax e.ea (by omega)
 have h3:=qax e.ec (by omega)
 simp[deText];omega
theorem sDdtTextC (l:List DE) (hl:l.length≤1048576):CV prog 122 [.lst 3 (l.map DE.row)] (.str (ddText l)):=by
 obtain⟨R,hR⟩:∃ R,ddText l=R:=⟨_,rfl⟩
 rw[hR]
 unfold ddText at hR
 have c1:=sDdtOkC l hl
 refine cvx func122 [(7,[zI 0,zI 1,zI 2,zI 3,zI 4,zI 5,zI 9,zI 10,zI 11,zI 12,zI 13,zI 17,zI 18,zI 19,zI 20,zI 21,zI 6,zI 7,zI 8,zI 14,zI 15,zI 16,zI 22,zI 23,zI 24])] ntmps122 rfl rfl rfl ?_ (hca:=by simp)
 simp -implicitDefEqProofs
 refine ev_lp (X:=Nat×List UInt8) [0,2,3,4] [] (fun x=>[(3,.str x.2),(4,.int .i64 x.1)]) (fun _=>[]) (fun x=>l.length-x.1) (fun x=>x.1≤l.length∧x.2.length≤30 * x.1∧(if qaf l=true then x.2++desText (l.drop x.1) (decide (x.1=0)) else [])=R∧(qaf l=false→x.2=[])) (0,[]) (by simp[← hR]) ?_
 rintro⟨i,t⟩ ⟨hi,hl2,hd,hz⟩
 simp only at hi hl2 hd hz
 cases hok:qaf l with
 | false =>
  rw[hok]at c1
  rw[if_neg (by simp[hok])]at hd
  simp -implicitDefEqProofs
  refine c1.call ?_
  simp -implicitDefEqProofs [hz hok,← hd]
 | true =>
  rw[if_pos hok]at hd
  rw[hok]at c1
  cases hr:l.drop i with
  | nil =>
   have:=dropn hr
   rw[hr]at hd
   have hie:i=l.length:=by omega
   subst hie
   simp only[desText,List.append_nil]at hd
   simp -implicitDefEqProofs
   refine c1.call ?_
   simp -implicitDefEqProofs [hd]
  | cons e q =>
   obtain⟨k1,e0,e1,k3⟩:=dropc hr
   rw[hr]at hd
   have hde:=ddt_de hok e (List.mem_of_getElem? e1)
   have hb:=deOk_b hde
   have hli:(i:Int)<l.length:=by omega
   have e2:=i64w ((i:Int)+1) (by omega) (by omega)
   have d1:=sdecI e.es (by omega) (by omega)
   have d2:=sdecI e.ea (by omega) (by omega)
   have d3:=sdecI e.ec (by omega) (by omega)
   have l1:=qax e.es (by omega)
   have l2:=qax e.ea (by omega)
   have l3:=qax e.ec (by omega)
   have htl:=deText_len hde
   simp -implicitDefEqProofs
   refine c1.call ?_
   by_cases h0:i=0
   ·subst h0
    simp only[desText,decide_true,if_true,List.nil_append]at hd
    simp -implicitDefEqProofs [k1,e0,DE.row]
    refine d1.call ?_
    simp -implicitDefEqProofs
    refine⟨by omega,by omega,?_⟩
    refine d2.call ?_
    simp -implicitDefEqProofs
    refine⟨by omega,by omega,?_⟩
    refine d3.call ?_
    simp -implicitDefEqProofs
    refine⟨by omega,nx (1,t++deText e) [] ⟨by simp only;omega,by simp only[List.length_append];omega,by simpa [k3]using hd⟩ (by simp only;omega) (h4:=by simp[deText])⟩
   ·have h0':(0:Int)<i:=by omega
    have hdf:decide (i=0)=false:=by simpa using h0
    rw[hdf]at hd
    simp only[desText,Bool.false_eq_true,if_false]at hd
    simp -implicitDefEqProofs [k1,e0,hli,DE.row,h0]
    intro _
    refine⟨by omega,?_⟩
    refine d1.call ?_
    simp -implicitDefEqProofs
    refine⟨by omega,by omega,?_⟩
    refine d2.call ?_
    simp -implicitDefEqProofs
    refine⟨by omega,by omega,?_⟩
    refine d3.call ?_
    simp -implicitDefEqProofs [e2]
    refine⟨by omega,nx (i+1,t++(32::deText e)) [] ⟨by simp only;omega,by simp only[List.length_append,List.length_cons];omega,by simpa [k3]using hd⟩ (by simp only;omega) (h4:=by simp[deText])⟩
def partsN:Nat→List DE→List (List UInt8)
 | 0,_=>[]
 | k+1,l=>if l=[] then [] else ddText (l.take 6)::partsN k (l.drop 6)
def partsT (l:List DE):List (List UInt8):=partsN l.length l
theorem partsN_len:∀ (k:Nat) (l:List DE),(partsN k l).length≤k
 | 0,_=>by simp[partsN]
 | k+1,l=>by
  have:=partsN_len k (l.drop 6)
  simp only[partsN]
  split <;> simp <;> omega
theorem sPartsO (l:List DE) (hl:l.length≤1000000):ACall prog 100 [.lst 3 (l.map DE.row)] [] (fun r L'=>r=.sl 900 0 (partsT l).length∧L'=[(900,strOb (partsT l))]):=by
 obtain⟨R,hR⟩:∃ R,partsT l=R:=⟨_,rfl⟩
 rw[hR]
 refine acx func100 [] ntmps100 rfl rfl rfl ?_
 simp -implicitDefEqProofs
 refine ev_lo (X:=Nat×List (List UInt8)) [0,3,4] [(6,900)] (fun x=>[(3,.sl 900 0 x.2.length),(4,.int .i64 x.1)]) (fun x=>[(900,strOb x.2)]) (fun x=>l.length+6-x.1) (fun x=>x.1≤l.length+6∧x.2.length≤x.1∧∃ k,l.length-x.1≤k∧x.2++partsN k (l.drop x.1)=R) (0,[]) ⟨by simp,by simp,l.length,by simp,by simpa [partsT]using hR⟩ ?_ (he:=by simp[obOf,strOb])
 rintro⟨i,out⟩ ⟨hi,hol,k,hk,hd⟩
 simp only at hi hol hk hd
 by_cases hlt:i<l.length
 ·obtain⟨m,rfl⟩:∃ m,k=m+1:=⟨k-1,by omega⟩
  have hne:¬ l.drop i=[]:=fun e=>by have:=dropn e;omega
  simp only[partsN,if_neg hne]at hd
  have hli:(i:Int)<l.length:=by omega
  have e2:=i64w ((i:Int)+6) (by omega) (by omega)
  have cd:=sDdtTextC ((l.drop i).take 6) (by simp;omega)
  have hcl:∀ x∈((l.drop i).take 6).map DE.row,clL x=true:=cl_de _
  by_cases h6:l.length<i+6
  ·have h6':(l.length:Int)<i+6:=by omega
   have e4:((l.map DE.row).drop i).take (l.length-i)=((l.drop i).take 6).map DE.row:=by
    rw[dr_to,List.take_of_length_le (l:=l.drop i) (by simp;omega)]
   simp -implicitDefEqProofs [hli,e2,h6']
   refine⟨by omega,?_⟩
   rw[e4]
   refine cd.call ?_
   simp -implicitDefEqProofs [e2,strOb]
   refine⟨by omega,nx (i+6,out++[ddText ((l.drop i).take 6)]) [(28,900)] ⟨by simp only;omega,by simp;omega,m,by simp only;omega,by simp only[List.drop_drop]at hd ⊢;simpa using hd⟩ (by simp only;omega) (h4:=by simp[obOf,qav,qap])⟩
  ·have h6':¬ (l.length:Int)<i+6:=by omega
   have e4:((l.map DE.row).drop i).take 6=((l.drop i).take 6).map DE.row:=by
    rw[← List.map_drop,← List.map_take]
   simp -implicitDefEqProofs [hli,e2,h6']
   refine⟨by omega,?_⟩
   rw[show((i:Int)+6).toNat-i=6 by omega,e4]
   refine cd.call ?_
   simp -implicitDefEqProofs [e2,strOb]
   refine⟨by omega,nx (i+6,out++[ddText ((l.drop i).take 6)]) [(28,900)] ⟨by simp only;omega,by simp;omega,m,by simp only;omega,by simp only[List.drop_drop]at hd ⊢;simpa using hd⟩ (by simp only;omega) (h4:=by simp[obOf,qav,qap])⟩
 ·have hz:l.drop i=[]:=List.drop_of_length_le (by omega)
  have hp:partsN k (l.drop i)=[]:=by rw[hz];cases k <;> simp[partsN]
  rw[hp,List.append_nil]at hd
  have hli:¬ (i:Int)<l.length:=by omega
  simp -implicitDefEqProofs [hli,← hd]
theorem sPartsC (l:List DE) (hl:l.length≤1000000):CV prog 100 [.lst 3 (l.map DE.row)] (.lst 1 ((partsT l).map qav)):=by
 refine CV.of_frz (sPartsO l hl) ?_ (hca:=by simp) (hcv:=by simp)
 rintro r L' ⟨rfl,rfl⟩
 refine⟨by simp,by simp,by simp[clR,strOb,qav],?_⟩
 simp[qcf,strOb,qap]
theorem cs_dty (s:CS) (h8:s.map.length=8):s.row[30]?=some (.bool s.dirty):=by
 have hl:(s.map.flatMap PT.row).length=24:=by
  rw[List.length_flatMap];exact sum3 h8
 show(.str s.name::.int .i64 s.kind::.str s.frm::(s.map.flatMap PT.row++(s.home.row++[.bool s.dirty])))[30]?=_
 simp only[List.getElem?_cons_succ]
 rw[List.getElem?_append_right (by omega),hl]
 rfl
def dirtN (l:List CS):Nat:=l.countP CS.dirty
def needsB (c:CO):Nat:=1+dirtN c.sets+if c.dirty=true then (partsT c.ddt).length else 0
theorem sNeedsC (c:CO) (h:CoT c) (hm:CoM c):CV prog 77 [.agg c.row] (.int .i64 (needsB c:Nat)):=by
 obtain⟨R,hR⟩:∃ R,needsB c=R:=⟨_,rfl⟩
 rw[hR]
 unfold needsB at hR
 have h1:=hm.sets
 have h2:=hm.ddt
 have c1:=sPartsC c.ddt (by omega)
 have hpl:(partsT c.ddt).length≤c.ddt.length:=partsN_len _ _
 refine cvx func77 [] ntmps77 rfl rfl rfl ?_ (hca:=by simp)
 simp -implicitDefEqProofs [CO.row]
 refine ev_lp (X:=Nat×Nat) [1,2,3,4] [(1,1)] (fun x=>[(3,.int .i64 (x.2:Int)),(4,.int .i64 x.1)]) (fun _=>[]) (fun x=>c.sets.length-x.1) (fun x=>x.1≤c.sets.length∧x.2≤1+x.1∧x.2+dirtN (c.sets.drop x.1)+(if c.dirty=true then (partsT c.ddt).length else 0)=R) (0,1) ⟨by simp,by simp,by simpa using hR⟩ ?_ (he:=by simp[obOf])
 rintro⟨i,m⟩ ⟨hi,hml,hd⟩
 simp only at hi hml hd
 cases hr:c.sets.drop i with
 | nil =>
  have:=dropn hr
  rw[hr]at hd
  have hie:i=c.sets.length:=by omega
  subst hie
  simp only[dirtN,List.countP_nil,Nat.add_zero]at hd
  simp -implicitDefEqProofs [obOf]
  cases hc:c.dirty with
  | false =>
   rw[hc]at hd
   simp -implicitDefEqProofs [← hd]
  | true =>
   rw[hc,if_pos rfl]at hd
   have e2:=i64w ((m:Int)+((partsT c.ddt).length:Int)) (by omega) (by omega)
   simp -implicitDefEqProofs
   refine c1.call ?_
   simp -implicitDefEqProofs [e2,← hd]
 | cons x q =>
  obtain⟨k1,e0,e1,k3⟩:=dropc hr
  rw[hr]at hd
  have h8:=h.m8 x (List.mem_of_getElem? e1)
  have hli:(i:Int)<c.sets.length:=by omega
  have e2:=i64w ((i:Int)+1) (by omega) (by omega)
  have e3:=i64w ((m:Int)+1) (by omega) (by omega)
  have hx30:=cs_dty x h8
  have hx30':=(List.getElem?_eq_some_iff.1 hx30).2
  simp only[dirtN,List.countP_cons]at hd
  simp -implicitDefEqProofs [obOf,k1,e0,hli,qay x h8,hx30',e2,e3]
  refine⟨fun q1=>?_,fun q1=>?_⟩
  ·rw[if_pos q1]at hd
   exact nx (i+1,m+1) [(1,1)] ⟨by simp only;omega,by simp only;omega,by simp only[k3,dirtN];rw[← hd];congr 1;omega⟩ (by simp only;omega) (h4:=by simp[obOf])
  ·rw[if_neg (by simp[q1])]at hd
   exact nx (i+1,m) [(1,1)] ⟨by simp only;omega,by simp only;omega,by simp only[k3,dirtN];rw[← hd];rfl⟩ (by simp only;omega) (h4:=by simp[obOf])
end Go.Av.F

end
section
namespace Go.Av.F
open Go Go.Av Go.Proofs Go.Proofs.Tryz
mutual
theorem frz_closed (id:Nat) (o:Ob):∀ (av:AV),clA av=true→frz id o av=av
 | .top,_=>by simp[frz]
 | .int _ _,_=>by simp[frz]
 | .bool _,_=>by simp[frz]
 | .str _,_=>by simp[frz]
 | .nilp,_=>by simp[frz]
 | .nils,_=>by simp[frz]
 | .nili,_=>by simp[frz]
 | .ifc,_=>by simp[frz]
 | .anyb,_=>by simp[frz]
 | .any1,_=>by simp[frz]
 | .lst _ _,_=>by simp[frz]
 | .elm _,_=>by simp[frz]
 | .ptr _ _ _,h=>by simp[clA]at h
 | .sl _ _ _,h=>by simp[clA]at h
 | .bsl _ _ _ _ _,h=>by simp[clA]at h
 | .slc _ _ _ _,h=>by simp[clA]at h
 | .agg cs,h=>by simp only[clA]at h;simp[frz,frzL_closed id o cs h]
 | .tup cs,h=>by simp only[clA]at h;simp[frz,frzL_closed id o cs h]
 | .fn f cs,h=>by simp only[clA]at h;simp[frz,frzL_closed id o cs h]
theorem frzL_closed (id:Nat) (o:Ob):∀ (l:List AV),clL l=true→frzL id o l=l
 | [],_=>rfl
 | a::r,h=>by
  simp only[clL,Bool.and_eq_true]at h
  simp[frzL,frz_closed id o a h.1,frzL_closed id o r h.2]
end
theorem frzO_closed (id:Nat) (o x:Ob) (h:clR x.els=true):frzO id o x=x:=by
 have:x.els.map (frzL id o)=x.els:=by
  conv=>rhs;rw[← List.map_id x.els]
  exact List.map_congr_left fun r hr=>frzL_closed id o r (List.all_eq_true.1 h r hr)
 unfold frzO
 rw[this]
@[simp] theorem frzO_de (id:Nat) (o:Ob) (l:List DE):frzO id o (deOb l)=deOb l:=frzO_closed id o _ (clR_de l)
@[simp] theorem frzO_kcs (id:Nat) (o:Ob) (l:List CS):frzO id o (kcs l)=kcs l:=frzO_closed id o _ (qbk l)
@[simp] theorem frzO_kpt (id:Nat) (o:Ob) (l:List PT):frzO id o (kpt l)=kpt l:=frzO_closed id o _ (clR_kpt l)
@[simp] theorem frzO_kin (id:Nat) (o:Ob) (l:List Int):frzO id o (kin l)=kin l:=frzO_closed id o _ (clR_kin l)
def runOb (d:DK) (fr:List Int) (txg:Int) (ok:Bool):Ob:=⟨6,[[.lst 1 (d.s0.map qav),.lst 1 (d.s1.map qav),.lst 3 (d.late.map LT.row),.lst 1 (fr.map qaw),.int .i64 txg,.bool ok]]⟩
@[simp] theorem renOb_run (ρ:Nat→Option Plc) (d:DK) (fr:List Int) (txg:Int) (ok:Bool):renOb ρ (runOb d fr txg ok)=runOb d fr txg ok:=by simp[runOb,renOb]
theorem clR_run (d:DK) (fr:List Int) (txg:Int) (ok:Bool):clR (runOb d fr txg ok).els=true:=by simp[clR,runOb]
theorem sPutC (d:DK) (h:DkT d) (a:Int) (fr:List Int) (txg:Int) (ok:Bool) (text:List UInt8) (ht:text.length≤1048576) :
  ACall prog 101 [.ptr 1000 0 0,.str text] [(1000,runOb d (a::fr) txg ok)]
   (fun r L'=>r=.agg (blkToB a text txg).row∧L'=[(1000,runOb (qat d a text).1 fr txg (ok && (qat d a text).2))]):=by
 have c1:=sBlkWriteC d h a text ht
 have c2:=sBlkToC a text txg (by simp[maxLen];omega)
 obtain⟨R,hR⟩:∃ R,qat d a text=R:=⟨_,rfl⟩
 rw[hR]at c1 ⊢
 simp only[DK.row]at c1
 cases ok
 all_goals
  refine acx func101 [] ntmps101 rfl rfl rfl ?_
  simp -implicitDefEqProofs [runOb,qaw]
  refine c1.call ?_
  simp -implicitDefEqProofs
  refine c2.call ?_
  simp -implicitDefEqProofs [PT.row]
  exact qap qaw fr
structure RS where
 d:DK
 fr:List Int
 ok:Bool
deriving DecidableEq,Inhabited
def rsPut (txg:Int) (r:RS) (text:List UInt8):PT×RS:=(blkToB (r.fr.headD 0) text txg,⟨(qat r.d (r.fr.headD 0) text).1,r.fr.tail,r.ok && (qat r.d (r.fr.headD 0) text).2⟩)
def setsB (txg:Int):List CS→RS→List CS×RS
 | [],r=>([],r)
 | s::q,r=>if s.dirty=true then (⟨s.name,s.kind,s.frm,s.map,(rsPut txg r (mapText s.map)).1,false⟩::(setsB txg q (rsPut txg r (mapText s.map)).2).1,(setsB txg q (rsPut txg r (mapText s.map)).2).2)
   else (s::(setsB txg q r).1,(setsB txg q r).2)
def ptsB (txg:Int):List (List UInt8)→RS→List PT×RS
 | [],r=>([],r)
 | t::q,r=>((rsPut txg r t).1::(ptsB txg q (rsPut txg r t).2).1,(ptsB txg q (rsPut txg r t).2).2)
def qag (d:DK) (c:CO):RS×CO×PT :=
 let x:=setsB (c.txg+1) c.sets ⟨d,freeB c d.s0.length,true⟩
 let y:=if c.dirty=true then ptsB (c.txg+1) (partsT c.ddt) x.2 else (c.parts,x.2)
 let c2:CO:=⟨c.txg,x.1,c.ddt,y.1,false,c.safe,c.logn⟩
 let z:=rsPut (c.txg+1) y.2 (qbh c2)
 (z.2,c2,z.1)
theorem qcg {d:DK} (h:dOkB d=true) (a:Int) (t:List UInt8):dOkB (qat d a t).1=true∧(qat d a t).1.s0.length=d.s0.length:=by
 have key:∀ (d:DK) (side:Int),dOkB d=true→dOkB (qbj d side a t).1=true∧(qbj d side a t).1.s0.length=d.s0.length∧(qbj d side a t).1.late.length≤d.late.length+1:=fun d side h=>by
  obtain⟨g1,g2,g3,g4,g5,g6,g7⟩:=dOk_len h
  unfold qbj
  rw[if_neg (by simp[h])]
  split
  ·exact⟨h,rfl,by simp⟩
  ·rename_i hn
   simp only[not_or]at hn
   refine⟨?_,rfl,by simp⟩
   simp only[dOkB,Bool.and_eq_true,decide_eq_true_eq,List.all_eq_true]
   refine⟨⟨⟨⟨⟨⟨g1,g2⟩,g3⟩,by simp;omega⟩,g5⟩,g6⟩,fun w hw=>?_⟩
   rcases List.mem_append.1 hw with hw | hw
   ·exact g7 w hw
   ·simp only[List.mem_cons,List.not_mem_nil,or_false]at hw
    subst hw
    show thereB d side a t=true
    simpa using hn.1
 unfold qat
 rw[if_neg (by simp[h])]
 split
 ·exact⟨h,rfl⟩
 ·have k1:=key d 0 h
  split
  ·exact⟨k1.1,k1.2.1⟩
  ·have k2:=key (qbj d 0 a t).1 1 k1.1
   exact⟨k2.1,by rw[k2.2.1,k1.2.1]⟩
theorem setsB_len (txg:Int):∀ (l:List CS) (r:RS),(setsB txg l r).1.length=l.length
 | [],r=>rfl
 | s::q,r=>by
  simp only[setsB]
  split <;> simp[setsB_len txg q]
theorem mapText_len (m:List PT) (h8:m.length=8):(mapText m).length≤1000:=by
 have key:∀ (l:List PT) (b:Bool) (t:List UInt8),ptsText l b=some t→t.length≤30 * l.length:=fun l=>by
  induction l with
  | nil=>intro b t h;simp only[ptsText,Option.some.injEq]at h;subst h;simp
  | cons p r ih =>
   intro b t h
   simp only[ptsText]at h
   split at h
   ·cases h
   ·cases hr:ptsText r false with
    | none=>rw[hr]at h;cases h
    | some u =>
     rw[hr]at h
     simp only[Option.map_some,Option.some.injEq]at h
     have:=ih false u hr
     have hp:=ptText_len p
     rw[← h]
     split <;> simp <;> omega
 unfold mapText
 cases h:ptsText m true with
 | none=>simp
 | some t=>have:=key m true t h;simp;omega
theorem renL_cs1 (ρ:Nat→Option Plc) (s:CS):renL ρ s.row=s.row:=renL_closed.renL_closedL ρ _ (cs_cl s)
theorem cs_27 (s:CS) (h8:s.map.length=8):List.take 27 s.row=.str s.name::.int .i64 s.kind::.str s.frm::s.map.flatMap PT.row∧List.drop 30 s.row=[.bool s.dirty]:=by
 have hl:(s.map.flatMap PT.row).length=24:=by
  rw[List.length_flatMap];exact sum3 h8
 have e:s.row=(.str s.name::.int .i64 s.kind::.str s.frm::s.map.flatMap PT.row)++(s.home.row++[.bool s.dirty]):=by simp[CS.row]
 have hh:s.home.row.length=3:=rfl
 constructor
 ·rw[e];exact List.take_left' (by simp[hl])
 ·rw[e,← List.append_assoc];exact List.drop_left' (by simp[hl])
theorem cs_upd (s:CS) (h8:s.map.length=8) (p:PT):List.take 30 (List.take 27 s.row++.int .i64 p.pa::.int .i64 p.ps::.int .i64 p.pb::List.drop 30 s.row) ++
  .bool false::List.drop 31 (List.take 27 s.row++.int .i64 p.pa::.int .i64 p.ps::.int .i64 p.pb::List.drop 30 s.row)=CS.row ⟨s.name,s.kind,s.frm,s.map,p,false⟩:=by
 have hl:(s.map.flatMap PT.row).length=24:=by
  rw[List.length_flatMap];exact sum3 h8
 obtain⟨h1,h2⟩:=cs_27 s h8
 rw[h1,h2]
 have e:(.str s.name::.int .i64 s.kind::.str s.frm::s.map.flatMap PT.row)++(.int .i64 p.pa::.int .i64 p.ps::.int .i64 p.pb::[AV.bool s.dirty])=((.str s.name::.int .i64 s.kind::.str s.frm::s.map.flatMap PT.row)++[.int .i64 p.pa,.int .i64 p.ps,.int .i64 p.pb])++[.bool s.dirty]:=by simp
 rw[e,List.take_left' (by simp[hl]),List.drop_of_length_le (by simp[hl])]
 simp[CS.row]
def zCO:List AV:=[.int .i64 0,.nils,.nils,.nils,.bool false,.nils,.int .i64 0]
@[simp] theorem renL_zCO (ρ:Nat→Option Plc):renL ρ zCO=zCO:=by simp[zCO]
def blS (c:CO) (d:DK) (fr:List Int):S :=
 ⟨mkT [(3,.ptr 3 0 0),(5,.ptr 5 0 0),(6,.ptr 6 0 0),(7,.ptr 25 0 0),(8,.int .i64 0)],
  hpOf [(3,⟨7,[[.int .i64 c.txg,.sl 8 0 c.sets.length,.sl 12 0 c.ddt.length,.sl 17 0 c.parts.length,.bool c.dirty,.sl 22 0 c.safe.length,.int .i64 c.logn]]⟩),(5,⟨7,[zCO]⟩),(6,⟨3,[[.int .i64 0,.int .i64 0,.int .i64 0]]⟩),
   (8,kcs c.sets),(12,deOb c.ddt),(17,kpt c.parts),(22,kin c.safe),(25,runOb d fr (c.txg+1) true)],Us.of [3,5,6,8,12,17,22,25]⟩
theorem setsB_mem (txg:Int):∀ (l:List CS) (r:RS),∀ s∈(setsB txg l r).1,∃ t∈l,s.map=t.map∧s.name=t.name∧s.frm=t.frm∧s.kind=t.kind
 | [],r,s,hs=>by simp[setsB]at hs
 | t::q,r,s,hs=>by
  simp only[setsB]at hs
  split at hs
  ·rcases List.mem_cons.1 hs with rfl | hs
   ·exact⟨t,by simp,rfl,rfl,rfl,rfl⟩
   ·obtain⟨u,hu,h⟩:=setsB_mem txg q _ s hs
    exact⟨u,by simp[hu],h⟩
  ·rcases List.mem_cons.1 hs with rfl | hs
   ·exact⟨s,by simp,rfl,rfl,rfl,rfl⟩
   ·obtain⟨u,hu,h⟩:=setsB_mem txg q _ s hs
    exact⟨u,by simp[hu],h⟩
theorem rootText_len (c:CO):(qbh c).length≤4+64 * c.sets.length+64 * c.parts.length:=by
 have k1:∀ (l:List CS) (t:List UInt8),rootSets l=some t→t.length≤64 * l.length:=fun l=>by
  induction l with
  | nil=>intro t h;simp only[rootSets,Option.some.injEq]at h;subst h;simp
  | cons s r ih =>
   intro t h
   simp only[rootSets]at h
   split at h
   ·cases h
   ·rename_i hs
    cases hr:rootSets r with
    | none=>rw[hr]at h;cases h
    | some u =>
     rw[hr]at h
     simp only[Option.map_some,Option.some.injEq]at h
     have:=ih u hr
     have hp:=rootSet_len (s:=s) (by simpa using hs)
     rw[← h]
     simp;omega
 have k2:∀ (l:List PT) (t:List UInt8),rootParts l=some t→t.length≤64 * l.length:=fun l=>by
  induction l with
  | nil=>intro t h;simp only[rootParts,Option.some.injEq]at h;subst h;simp
  | cons p r ih =>
   intro t h
   simp only[rootParts]at h
   split at h
   ·cases h
   ·cases hr:rootParts r with
    | none=>rw[hr]at h;cases h
    | some u =>
     rw[hr]at h
     simp only[Option.map_some,Option.some.injEq]at h
     have:=ih u hr
     have hp:=ptText_len p
     rw[← h]
     simp;omega
 unfold qbh
 cases h1:rootSets c.sets with
 | none=>simp
 | some t =>
  cases h2:rootParts c.parts with
  | none=>simp
  | some u =>
   have:=k1 _ _ h1
   have:=k2 _ _ h2
   simp;omega
theorem ddText_len (l:List DE):(ddText l).length≤30 * l.length:=by
 have key:∀ (l:List DE) (b:Bool),(∀ e∈l,deOkB e=true)→(desText l b).length≤30 * l.length:=fun l=>by
  induction l with
  | nil=>intro b h;simp[desText]
  | cons e r ih =>
   intro b h
   have h1:=ih false fun x hx=>h x (by simp[hx])
   have h2:=deText_len (h e (by simp))
   simp only[desText]
   split <;> simp <;> omega
 unfold ddText
 split
 ·rename_i h
  exact key l true (ddt_de h)
 ·simp
theorem partsN_mem:∀ (k:Nat) (l:List DE),∀ t∈partsN k l,t.length≤180
 | 0,l,t,h=>by simp[partsN]at h
 | k+1,l,t,h=>by
  simp only[partsN]at h
  split at h
  ·simp at h
  ·rcases List.mem_cons.1 h with rfl | h
   ·have:=ddText_len (l.take 6)
    simp at this;omega
   ·exact partsN_mem k _ t h
def blS2 (c:CO) (cur:List CS) (rs:RS):S :=
 ⟨mkT [(3,.ptr 3 0 0),(5,.ptr 5 0 0),(6,.ptr 6 0 0),(7,.ptr 25 0 0),(9,.lst 1 ((partsT c.ddt).map qav)),(10,.int .i64 0)],
  hpOf [(3,⟨7,[[.int .i64 c.txg,.sl 8 0 c.sets.length,.sl 12 0 c.ddt.length,.sl 900 0 0,.bool c.dirty,.sl 22 0 c.safe.length,.int .i64 c.logn]]⟩),(5,⟨7,[zCO]⟩),(6,⟨3,[[.int .i64 0,.int .i64 0,.int .i64 0]]⟩),
   (8,kcs cur),(12,deOb c.ddt),(22,kin c.safe),(25,runOb rs.d rs.fr (c.txg+1) rs.ok),(900,kpt [])],Us.of [3,5,6,8,12,22,25,900]⟩
@[simp] theorem frzO_run (id:Nat) (o:Ob) (d:DK) (fr:List Int) (txg:Int) (ok:Bool):frzO id o (runOb d fr txg ok)=runOb d fr txg ok:=frzO_closed id o _ (clR_run d fr txg ok)
theorem take_set1 {α:Type} {l:List α} {i:Nat} {x:α} (h:i<l.length):(l.set i x).take (i+1)=l.take i++[x]:=by
 rw[List.take_add_one,List.getElem?_set_self h,List.take_set_of_le (by omega)]
 rfl
theorem sBlocksO (d:DK) (hd:dOkB d=true) (c:CO) (h:CoT c) (hm:CoM c) (hf:needsB c≤(freeB c d.s0.length).length) (ht:-1000000≤c.txg∧c.txg≤10000000) :
  ACall prog 79 [.agg d.row,.agg c.row] [] (fun r L'=>∃ p,(p=17∨p=900)∧r=.tup [.ptr 25 0 0,coreA (qag d c).2.1 8 12 p 22,.agg (qag d c).2.2.row] ∧
   L'=[(8,kcs (qag d c).2.1.sets),(12,deOb c.ddt),(p,kpt (qag d c).2.1.parts),(22,kin c.safe),(25,runOb (qag d c).1.d (qag d c).1.fr (c.txg+1) (qag d c).1.ok)]):=by
 have h1:=hm.sets
 have h2:=hm.ddt
 have h3:=hm.parts
 have hl:=dOk_len hd
 have ck:=sKCopyO c h
 have cf:=sFreeO c h d.s0.length (by omega)
 have e1:=i64w (c.txg+1) (by omega) (by omega)
 refine acx func79 [(2,[zJ 0 [2] [],zJ 1 [3] [2],zJ 2 [] [2,3],zJ 3 [] [2,3],zJ 4 [2] [2,3],zJ 5 [] [2,3],zJ 7 [] [2,3],zJ 8 [3] [2,3],zJ 9 [] [2,3],zJ 6 [] [2,3],zI 10,zI 11,zI 12]),(7,[zI 0,zJ 1 [3] [],zJ 2 [] [3],zJ 3 [] [3],zJ 4 [] [3],zJ 5 [3] [3],zJ 6 [] [3],zJ 7 [8] [3],zJ 8 [] [3],zJ 9 [8] [3],zJ 10 [] [3],zJ 11 [] [3],zJ 12 [8] [],zI 13,zI 14]),(15,[zI 0,zJ 1 [3] [],zJ 2 [] [3],zJ 3 [] [3],zJ 4 [] [3],zJ 5 [] [3],zJ 6 [] [3],zJ 7 [] [3],zJ 8 [] [3],zI 9,zI 10,zI 11]),(18,[zI 0,zJ 1 [3] [],zJ 2 [11] [3],zJ 3 [] [3,11],zJ 4 [] [11],zI 5])] ntmps79 rfl rfl rfl ?_
 simp -implicitDefEqProofs [CO.row,DK.row]
 simp only[CO.row]at ck cf
 refine qac [] (by kernel_rfl) ck (by simp) (by simpa [CO.row]using co_cl c) trivial (by simp) (by simp) ?_
 rintro r L' ⟨rfl,rfl⟩
 refine⟨[(8,8),(12,12),(17,17),(22,22)],⟨by simp,by simp,by simp,by simp,by simp⟩,?_⟩
 simp only[qae]
 simp -implicitDefEqProofs [coreA]
 refine callA_vw [] (by kernel_rfl) cf (by simp[vwOk,mtA,kcs,deOb,kpt,kin,qap,cs_cl]) (by simp) trivial (by simp) (by simp) ?_
 rintro r L' ⟨rfl,rfl⟩
 refine⟨by simp,by simp[kin,qaw],[(900,20)],⟨by simp,by simp,by simp,by simp,by simp⟩,?_⟩
 simp only[qae]
 simp -implicitDefEqProofs [e1]
 refine ev_sw (s':=blS c d (freeB c d.s0.length)) (sw_fr 20 (o:=kin (freeB c d.s0.length)) (by simp) (by simpa [clR]using clR_kin _) (by simp) (by simp) [3,5,6,7,8] [(3,3),(5,5),(6,6),(8,8),(12,12),(17,17),(22,22),(25,25)] (by simp[qab]) (by simp[-frzO,canon,obOf,blS];simp[frzO,runOb,zCO,kin,qap])) ?_
 simp only[blS]
 have hX:∃ X,setsB (c.txg+1) c.sets ⟨d,freeB c d.s0.length,true⟩=X:=⟨_,rfl⟩
 obtain⟨X,hX⟩:=hX
 refine ev_lp (X:=Nat×List CS×RS) [3,5,6,7,8] [(3,3),(5,5),(6,6),(8,8),(12,12),(17,17),(22,22),(25,25)] (fun x=>[(8,.int .i64 x.1)]) (fun x=>[(8,kcs x.2.1),(25,runOb x.2.2.d x.2.2.fr (c.txg+1) x.2.2.ok)]) (fun x=>c.sets.length-x.1)
  (fun x=>x.1≤c.sets.length∧x.2.1.length=c.sets.length∧x.2.1.drop x.1=c.sets.drop x.1∧dOkB x.2.2.d=true∧dirtN (c.sets.drop x.1)+(1+if c.dirty=true then (partsT c.ddt).length else 0)≤x.2.2.fr.length ∧
   (x.2.1.take x.1++(setsB (c.txg+1) (c.sets.drop x.1) x.2.2).1,(setsB (c.txg+1) (c.sets.drop x.1) x.2.2).2)=X) (0,c.sets,⟨d,freeB c d.s0.length,true⟩) ⟨by simp,rfl,rfl,hd,by simp only[List.drop_zero];unfold needsB at hf;omega,by simpa using hX⟩ ?_ (he:=by simp[obOf,runOb])
 rintro⟨i,cur,rs⟩ ⟨hi,hcl,hcd,hok,hfr,hX2⟩
 simp only at hi hcl hcd hok hfr hX2
 cases hr:c.sets.drop i with
 | nil =>
  have:=dropn hr
  rw[hr]at hX2 hfr
  have hie:i=c.sets.length:=by omega
  subst hie
  rw[List.take_of_length_le (by omega)]at hX2
  simp only[setsB,List.append_nil]at hX2
  simp -implicitDefEqProofs [obOf]
  subst hX2
  have hm8:∀ s∈cur,s.map.length=8∧s.name.length≤1048576∧s.frm.length≤1048576:=fun s hs=>by
   have hq:=setsB_mem (c.txg+1) c.sets ⟨d,freeB c d.s0.length,true⟩ s (by rw[hX];exact hs)
   obtain⟨t,ht,e1,e2,e3,_⟩:=hq
   rw[e1,e2,e3]
   exact⟨h.m8 t ht,h.nm t ht⟩
  refine⟨fun hdt=>?_,fun hdt=>?_⟩
  ·have co:=sPartsO c.ddt (by omega)
   refine callA_vw [] (by kernel_rfl) co (by simp[vwOk,mtA,deOb,qap]) (by simp) trivial (by simp) (by simp) ?_
   rintro r L' ⟨rfl,rfl⟩
   refine⟨by simp,by simp[strOb,qav],[(900,62)],⟨by simp,by simp,by simp,by simp,by simp⟩,?_⟩
   simp only[qae]
   simp -implicitDefEqProofs
   refine ev_sw (s':=blS2 c cur rs) ((sw_pht 900 3 (by simp)).trans ((sw_impc 3 3 (sz:=7) (row:=[.int .i64 c.txg,.sl 8 0 c.sets.length,.sl 12 0 c.ddt.length,.nils,.bool c.dirty,.sl 22 0 c.safe.length,.int .i64 c.logn]) (by simp) (by simp) (impA_sl0 900 0)).trans
    (sw_fr 62 (o:=strOb (partsT c.ddt)) (by simp) (by simp[strOb,qav]) (by simp) (by simp) [3,5,6,7,9,10] [(3,3),(5,5),(6,6),(8,8),(12,12),(22,22),(25,25),(900,900)] (by simp[qab]) (by simp[-frzO,canon,obOf,blS2];simp[frzO,strOb,qap,zCO,kpt])))) ?_
   simp only[blS2]
   obtain⟨T,hT0⟩:∃ T,partsT c.ddt=T:=⟨_,rfl⟩
   have hTl:T.length≤1000:=by rw[← hT0];have:(partsT c.ddt).length≤c.ddt.length:=partsN_len _ _;omega
   obtain⟨Y,hY⟩:∃ Y,ptsB (c.txg+1) T rs=Y:=⟨_,rfl⟩
   rw[hdt,hT0]at hfr
   simp only[dirtN,List.countP_nil,if_true]at hfr
   have hTt:∀ t∈T,t.length≤1048576:=fun t ht=>by
    rw[← hT0]at ht
    have:=partsN_mem c.ddt.length c.ddt t ht
    omega
   rw[hT0]
   refine ev_lp (X:=Nat×List PT×RS) [3,5,6,7,9,10] [(3,3),(5,5),(6,6),(8,8),(12,12),(22,22),(25,25),(900,900)] (fun x=>[(10,.int .i64 x.1)])
    (fun x=>[(3,⟨7,[[.int .i64 c.txg,.sl 8 0 c.sets.length,.sl 12 0 c.ddt.length,.sl 900 0 x.2.1.length,.bool c.dirty,.sl 22 0 c.safe.length,.int .i64 c.logn]]⟩),(25,runOb x.2.2.d x.2.2.fr (c.txg+1) x.2.2.ok),(900,kpt x.2.1)]) (fun x=>T.length-x.1)
    (fun x=>x.1≤T.length∧x.2.1.length=x.1∧dOkB x.2.2.d=true∧(T.length-x.1)+1≤x.2.2.fr.length∧(x.2.1++(ptsB (c.txg+1) (T.drop x.1) x.2.2).1,(ptsB (c.txg+1) (T.drop x.1) x.2.2).2)=Y) (0,[],rs) ⟨by simp,rfl,hok,by simp only;omega,by simpa using hY⟩ ?_ (he:=by simp[obOf])
   rintro⟨i,ps,rs'⟩ ⟨hi,hpl,hok',hfr',hY2⟩
   simp only at hi hpl hok' hfr' hY2
   cases hr2:T.drop i with
   | nil =>
    have:=dropn hr2
    rw[hr2]at hY2
    have hie:i=T.length:=by omega
    simp only[ptsB,List.append_nil]at hY2
    subst hie
    subst hY2
    obtain⟨a,fr,hfe⟩:∃ a fr,rs'.fr=a::fr:=by
     cases hh:rs'.fr with
     | nil=>rw[hh]at hfr';simp at hfr'
     | cons a fr=>exact⟨a,fr,rfl⟩
    obtain⟨rd,rf,rok⟩:=rs'
    simp only at hfe hok' hfr' hY
    subst hfe
    obtain⟨c2,hc2⟩:∃ c2:CO,c2=⟨c.txg,cur,c.ddt,ps,false,c.safe,c.logn⟩:=⟨_,rfl⟩
    have hT:CoT c2:=by
     subst hc2
     exact⟨by simp only;omega,h.ddt,by simp only;omega,h.safe,fun s hs=>(hm8 s hs).1,fun s hs=>(hm8 s hs).2⟩
    have cr:=sRootC c2 hT
    have hrl:(qbh c2).length≤1048576:=by
     have:=rootText_len c2
     have k1:c2.sets.length≤1000:=by subst hc2;simp only;omega
     have k2:c2.parts.length≤1000:=by subst hc2;simp only;omega
     omega
    have cp:=sPutC rd (dOk_T hok') a fr (c.txg+1) rok (qbh c2) hrl
    have hb:qag d c=(⟨(qat rd a (qbh c2)).1,fr,rok && (qat rd a (qbh c2)).2⟩,c2,blkToB a (qbh c2) (c.txg+1)):=by
     unfold qag
     simp only[hX,hdt,if_true,hT0,hY,← hc2,rsPut,List.headD_cons,List.tail_cons]
    have cr':=cr
    simp only[CO.row]at cr'
    simp -implicitDefEqProofs [obOf]
    refine cr'.view (by simp[vwOk,mtA,kcs,deOb,kpt,kin,qap,cs_cl,hc2,hdt,hcl];rw[← hcl];exact qap _ _) ?_
    simp -implicitDefEqProofs
    refine qac [(1000,.whole 25)] (by kernel_rfl) cp (by simp) (by simp) (by simp;exact qad rfl (clR_run _ _ _ _)) (by simp) (by simp) ?_
    rintro r L' ⟨rfl,rfl⟩
    refine⟨[],⟨by simp,by simp,by simp,by simp,by simp⟩,?_⟩
    simp only[qae]
    simp -implicitDefEqProofs [PT.row]
    rw[hb]
    subst hc2
    simp[hcl]
   | cons t q =>
    obtain⟨k1,e0,e1',k3⟩:=dropc hr2
    rw[hr2]at hY2
    have hli:(i:Int)<T.length:=by omega
    have e2:=i64w ((i:Int)+1) (by omega) (by omega)
    obtain⟨a,fr,hfe⟩:∃ a fr,rs'.fr=a::fr:=by
     cases hh:rs'.fr with
     | nil=>rw[hh]at hfr';simp at hfr'
     | cons a fr=>exact⟨a,fr,rfl⟩
    obtain⟨rd,rf,rok⟩:=rs'
    simp only at hfe hok' hfr' hY2
    subst hfe
    have cp:=sPutC rd (dOk_T hok') a fr (c.txg+1) rok t (hTt t (List.mem_of_getElem? e1'))
    have hbo:=qcg hok' a t
    simp only[ptsB,rsPut,List.headD_cons,List.tail_cons]at hY2
    simp only[List.length_cons]at hfr'
    simp -implicitDefEqProofs [obOf,hli,k1,e0,qav]
    refine qac [(1000,.whole 25)] (by kernel_rfl) cp (by simp) (by simp) (by simp;exact qad rfl (clR_run _ _ _ _)) (by simp) (by simp) ?_
    rintro r L' ⟨rfl,rfl⟩
    refine⟨[],⟨by simp,by simp,by simp,by simp,by simp⟩,?_⟩
    simp only[qae]
    simp -implicitDefEqProofs [PT.row,kpt,hpl]
    refine⟨by omega,nx (i+1,ps++[blkToB a t (c.txg+1)],⟨(qat rd a t).1,fr,rok && (qat rd a t).2⟩) [(3,3),(5,5),(6,6),(8,8),(12,12),(22,22),(25,25),(79,900)] ⟨by simp only;omega,by simp[hpl],hbo.1,by simp only;omega,by simp only[k3];rw[List.append_assoc];exact hY2⟩ (by simp only;omega) (h4:=?_)⟩
    have htk:List.take i (ps.map PT.row)=ps.map PT.row:=List.take_of_length_le (by simp[hpl])
    simp[obOf,e2,hpl,PT.row,htk]
  ·rw[hdt]at hfr
   simp only[dirtN,List.countP_nil,Bool.false_eq_true,if_false]at hfr
   obtain⟨a,fr,hfe⟩:∃ a fr,rs.fr=a::fr:=by
    cases hh:rs.fr with
    | nil=>rw[hh]at hfr;simp at hfr
    | cons a fr=>exact⟨a,fr,rfl⟩
   obtain⟨rd,rf,rok⟩:=rs
   simp only at hfe hok hX
   subst hfe
   obtain⟨c2,hc2⟩:∃ c2:CO,c2=⟨c.txg,cur,c.ddt,c.parts,false,c.safe,c.logn⟩:=⟨_,rfl⟩
   have hT:CoT c2:=by
    subst hc2
    exact⟨by simp only;omega,h.ddt,h.parts,h.safe,fun s hs=>(hm8 s hs).1,fun s hs=>(hm8 s hs).2⟩
   have cr:=sRootC c2 hT
   have hrl:(qbh c2).length≤1048576:=by
    have:=rootText_len c2
    have k1:c2.sets.length≤1000:=by subst hc2;simp only;omega
    have k2:c2.parts.length≤1000:=by subst hc2;exact h3
    omega
   have cp:=sPutC rd (dOk_T hok) a fr (c.txg+1) rok (qbh c2) hrl
   have hb:qag d c=(⟨(qat rd a (qbh c2)).1,fr,rok && (qat rd a (qbh c2)).2⟩,c2,blkToB a (qbh c2) (c.txg+1)):=by
    unfold qag
    simp only[hX,hdt,Bool.false_eq_true,if_false,← hc2,rsPut,List.headD_cons,List.tail_cons]
   have cr':=cr
   simp only[CO.row]at cr'
   refine cr'.view (by simp[vwOk,mtA,kcs,deOb,kpt,kin,qap,cs_cl,hc2,hdt,hcl];rw[← hcl];exact qap _ _) ?_
   simp -implicitDefEqProofs
   refine qac [(1000,.whole 25)] (by kernel_rfl) cp (by simp) (by simp) (by simp;exact qad rfl (clR_run _ _ _ _)) (by simp) (by simp) ?_
   rintro r L' ⟨rfl,rfl⟩
   refine⟨[],⟨by simp,by simp,by simp,by simp,by simp⟩,?_⟩
   simp only[qae]
   simp -implicitDefEqProofs [PT.row]
   rw[hb]
   subst hc2
   simp[hcl,hdt]
 | cons s q =>
  obtain⟨k1,e0,e1',k3⟩:=dropc hr
  rw[hr]at hX2 hfr hcd
  obtain⟨m1,m0,m2,m3⟩:=dropc hcd
  have h8:=h.m8 s (List.mem_of_getElem? e1')
  have hli:(i:Int)<c.sets.length:=by omega
  have e2:=i64w ((i:Int)+1) (by omega) (by omega)
  have hx30:=cs_dty s h8
  have hx30':=(List.getElem?_eq_some_iff.1 hx30).2
  simp -implicitDefEqProofs [obOf,hcl,k1,m0,hli,qay s h8,hx30',e2,kcs]
  have c1:=sCoreMapC s.map h8
  have hml:=mapText_len s.map h8
  refine⟨fun q1=>?_,fun q1=>?_⟩
  ·have hfr1:0<rs.fr.length:=by
    have:dirtN (s::q)=dirtN q+1:=by simp[dirtN,q1]
    omega
   obtain⟨a,fr,hfe⟩:∃ a fr,rs.fr=a::fr:=by
    cases hh:rs.fr with
    | nil=>rw[hh]at hfr1;simp at hfr1
    | cons a fr=>exact⟨a,fr,rfl⟩
   obtain⟨rd,rf,rok⟩:=rs
   simp only at hfe hok hfr hX2
   subst hfe
   have cp:=sPutC rd (dOk_T hok) a fr (c.txg+1) rok (mapText s.map) (by omega)
   have hbo:=qcg hok a (mapText s.map)
   rw[cs_map24 s h8]
   refine c1.call ?_
   simp -implicitDefEqProofs
   refine qac [(1000,.whole 25)] (by kernel_rfl) cp (by simp) (by simp) (by simp;exact qad rfl (clR_run _ _ _ _)) (by simp) (by simp) ?_
   rintro r L' ⟨rfl,rfl⟩
   refine⟨[],⟨by simp,by simp,by simp,by simp,by simp⟩,?_⟩
   simp only[qae]
   simp -implicitDefEqProofs [hcl,k1,m0,hli]
   have hdn:dirtN (s::q)=dirtN q+1:=by simp[dirtN,q1]
   simp only[setsB,if_pos q1,rsPut,List.headD_cons,List.tail_cons]at hX2
   simp only[List.length_cons]at hfr
   refine nx (i+1,cur.set i ⟨s.name,s.kind,s.frm,s.map,blkToB a (mapText s.map) (c.txg+1),false⟩,⟨(qat rd a (mapText s.map)).1,fr,rok && (qat rd a (mapText s.map)).2⟩) [(3,3),(5,5),(6,6),(8,8),(12,12),(17,17),(22,22),(25,25)]
    ⟨by simp only;omega,by simpa using hcl,by simp only;rw[List.drop_set_of_lt (by omega),m3,k3],hbo.1,by simp only[k3];omega,?_⟩ (by simp only;omega) (h4:=?_)
   ·simp only[k3]
    rw[take_set1 m1,List.append_assoc]
    exact hX2
   ·simp[obOf,e2]
    rw[cs_upd s h8,renL_cs1]
  ·have hdn:dirtN (s::q)=dirtN q:=by simp[dirtN,q1]
   simp only[setsB,q1,Bool.false_eq_true,if_false]at hX2
   exact nx (i+1,cur,rs) [(3,3),(5,5),(6,6),(8,8),(12,12),(17,17),(22,22),(25,25)] ⟨by simp only;omega,hcl,by simp only;rw[m3,k3],hok,by simp only[k3];omega,by simp only[k3];rw[List.take_add_one,m2];simpa using hX2⟩ (by simp only;omega) (h4:=by simp[obOf])
end Go.Av.F

end
section
namespace Go.Av
open Go Go.Proofs
variable {P:Program}
theorem ACall.frzP {f:Nat} {args:List AV} {R R':AV→List (Nat×Ob)→Prop} (h:ACall P f args [] R)
  (hr:∀ r L',R r L'→∃ A L2,L'=A++L2∧A.length≤20∧(L'.map (·.1)).Nodup∧(∀ x∈L',clR x.2.els=true)∧R' (qcf A r) L2):ACall P f args [] R':=by
 have key:∀ (n:Nat) (R:AV→List (Nat×Ob)→Prop),ACall P f args [] R →
   (∀ r L',R r L'→∃ A L2,L'=A++L2∧A.length≤n∧(L'.map (·.1)).Nodup∧(∀ x∈L',clR x.2.els=true)∧R' (qcf A r) L2)→ACall P f args [] R':=by
  intro n
  induction n with
  | zero =>
   intro R h hr
   refine h.mono fun r L' hR=>?_
   obtain⟨A,L2,rfl,hl,_,_,hv⟩:=hr r L' hR
   have:A=[]:=List.eq_nil_of_length_eq_zero (by omega)
   subst this
   exact hv
  | succ n ih =>
   intro R h hr
   refine ih (fun r L'=>∃ A L2,L'=A++L2∧A.length≤n∧(L'.map (·.1)).Nodup∧(∀ x∈L',clR x.2.els=true)∧R' (qcf A r) L2) (h.frz1 fun r L' hR=>?_) fun r L' h=>h
   obtain⟨A,L2,rfl,hl,hn,hc,hv⟩:=hr r L' hR
   cases A with
   | nil=>exact .inl ⟨[],L2,rfl,by simp,hn,hc,hv⟩
   | cons x A2 =>
    obtain⟨id,o⟩:=x
    simp only[List.cons_append,List.map_cons,List.nodup_cons,List.mem_cons,List.length_cons]at hn hc hl
    exact .inr ⟨id,o,A2++L2,rfl,hn.1,hc _ (.inl rfl),fun x hx=>hc x (.inr hx),A2,L2,rfl,by omega,hn.2,fun x hx=>hc x (.inr hx),hv⟩
 exact key 20 R h hr
end Go.Av
namespace Go.Av.F
open Go Go.Av Go.Proofs Go.Proofs.Tryz
theorem uberText_len (txg:Int) (p:PT):(uberText txg p).length≤70000:=by
 unfold uberText
 split
 ·simp
 ·exact sealB_len _
def ringB (d:DK) (txg:Int) (p:PT):DK×Bool:=qat d (1+txg % 4) (uberText txg p)
theorem sRingC (d:DK) (h:DkT d) (txg:Int) (p:PT) (ht:0≤txg∧txg≤10000000):CV prog 80 [.agg d.row,.int .i64 txg,.agg p.row] (.tup [.agg (ringB d txg p).1.row,.bool (ringB d txg p).2]):=by
 have c1:=sUberC txg p
 have hl:=uberText_len txg p
 have c2:=sBlkWriteC d h (1+txg % 4) (uberText txg p) (by omega)
 unfold ringB
 generalize qat d (1+txg % 4) (uberText txg p)=R at *
 simp only[DK.row,PT.row]at c1 c2
 have q2:txg.tmod 4=txg % 4:=Int.tmod_eq_emod_of_nonneg (by omega)
 have e1:=i64w (txg % 4) (by omega) (by omega)
 have e2:=i64w (1+txg % 4) (by omega) (by omega)
 refine cvx func80 [(1,[zJ 0 [3] [],zJ 1 [] [3],zJ 2 [] [3],zJ 3 [] [3],zJ 4 [] [3],zJ 5 [5] [3],zJ 6 [] [3],zI 7,zI 8,zI 9,zI 10,zI 11])] ntmps80 rfl rfl rfl ?_ (hca:=by simp[DK.row,PT.row]) (hcv:=by simp[DK.row])
 simp -implicitDefEqProofs [DK.row,PT.row,q2,e2]
 refine c1.call ?_
 simp -implicitDefEqProofs
 refine c2.call ?_
 simp -implicitDefEqProofs
def mayDoB (d:DK) (c:CO):Bool:=decide (c.txg<1000000) && decide (needsB c≤(freeB c d.s0.length).length)
theorem sMayDoC (d:DK) (hd:DkT d) (c:CO) (h:CoT c) (hm:CoM c):CV prog 48 [.agg d.row,.agg c.row] (.bool (mayDoB d c)):=by
 have hl:=hd.l0
 have c1:=sFreeC c h d.s0.length (by omega)
 have c2:=sNeedsC c h hm
 unfold mayDoB
 generalize freeB c d.s0.length=l at *
 generalize needsB c=n at *
 simp only[CO.row]at c1 c2
 refine cvx func48 [(1,[zI 0,zJ 1 [3] [],zI 2,zI 3,zJ 4 [3] [],zJ 5 [] [3],zJ 6 [] [3],zJ 7 [2] [3],zJ 8 [] [3],zJ 11 [3] [3,2],zJ 9 [] [3],zJ 10 [] [3],zI 12,zI 13,zI 14,zI 15])] ntmps48 rfl rfl rfl ?_ (hca:=by simp[DK.row])
 simp -implicitDefEqProofs [DK.row,CO.row]
 refine⟨fun q1=>?_,fun q1 q2=>by omega⟩
 refine c1.call ?_
 simp -implicitDefEqProofs
 refine c2.call ?_
 simp -implicitDefEqProofs
 simp[q1]
theorem sBlocksF (d:DK) (hd:dOkB d=true) (c:CO) (h:CoT c) (hm:CoM c) (hf:needsB c≤(freeB c d.s0.length).length) (ht:-1000000≤c.txg∧c.txg≤10000000) :
  ACall prog 79 [.agg d.row,.agg c.row] [] (fun r L'=>r=.tup [.ptr 25 0 0,.agg (qag d c).2.1.row,.agg (qag d c).2.2.row] ∧
   L'=[(25,runOb (qag d c).1.d (qag d c).1.fr (c.txg+1) (qag d c).1.ok)]):=by
 have hdd:(qag d c).2.1.ddt=c.ddt∧(qag d c).2.1.safe=c.safe:=⟨rfl,rfl⟩
 refine(sBlocksO d hd c h hm hf ht).frzP ?_
 rintro r L' ⟨p,hp,rfl,rfl⟩
 generalize qag d c=B at *
 refine⟨[(8,kcs B.2.1.sets),(12,deOb c.ddt),(p,kpt B.2.1.parts),(22,kin c.safe)],[(25,runOb B.1.d B.1.fr (c.txg+1) B.1.ok)],rfl,by simp,?_,?_,?_,rfl⟩
 ·rcases hp with rfl | rfl <;> simp
 ·intro x hx
  simp only[List.mem_cons,List.not_mem_nil,or_false]at hx
  rcases hx with rfl | rfl | rfl | rfl | rfl
  ·exact qbk _
  ·exact clR_de _
  ·exact clR_kpt _
  ·exact clR_kin _
  ·exact clR_run _ _ _ _
 ·rcases hp with rfl | rfl
  all_goals simp[qcf,coreA,CO.row,kcs,kpt,kin,deOb,qap,hdd.1,hdd.2,PT.row]
end Go.Av.F

end
section
namespace Go.Av.F
open Go Go.Av Go.Proofs Go.Proofs.Tryz
theorem putP_fold (n m:Nat) (k:Nat):∀ (l:List LT) (p:List (List UInt8)×List (List UInt8)),p.1.length=n→p.2.length=m→(∀ x∈p.1,x.length≤k)→(∀ x∈p.2,x.length≤k)→(∀ w∈l,w.lx.length≤k) →
  (l.foldl putP p).1.length=n∧(l.foldl putP p).2.length=m∧(∀ x∈(l.foldl putP p).1,x.length≤k)∧∀ x∈(l.foldl putP p).2,x.length≤k
 | [],p,h1,h2,h3,h4,_=>⟨h1,h2,h3,h4⟩
 | w::q,p,h1,h2,h3,h4,h5=>by
  have hw:=h5 w (by simp)
  have hl:=putP_len p w
  refine putP_fold n m k q (putP p w) (by omega) (by omega) (fun x hx=>?_) (fun x hx=>?_) fun w hw=>h5 w (by simp[hw])
  ·unfold putP at hx
   split at hx
   ·rcases List.mem_or_eq_of_mem_set hx with hx | rfl
    ·exact h3 x hx
    ·exact hw
   ·exact h3 x hx
  ·unfold putP at hx
   split at hx
   ·exact h4 x hx
   ·rcases List.mem_or_eq_of_mem_set hx with hx | rfl
    ·exact h4 x hx
    ·exact hw
theorem flush_ok {d:DK} (h:dOkB d=true):dOkB (qbm d)=true∧(qbm d).s0.length=d.s0.length∧(qbm d).late=[]:=by
 obtain⟨g1,g2,g3,g4,g5,g6,g7⟩:=dOk_len h
 have k:=putP_fold d.s0.length d.s1.length 420 d.late (d.s0,d.s1) rfl rfl g5 g6 fun w hw=>(thereB_iff.1 (g7 w hw)).2.2
 unfold qbm
 rw[if_pos h]
 obtain⟨k1,k2,k3,k4⟩:=k
 refine⟨?_,k1,rfl⟩
 simp only[dOkB,Bool.and_eq_true,decide_eq_true_eq,List.all_eq_true]
 exact⟨⟨⟨⟨⟨⟨by omega,by omega⟩,by omega⟩,by simp⟩,k3⟩,k4⟩,by simp⟩
theorem rsPut_ok {r:RS} (h:dOkB r.d=true) (txg:Int) (t:List UInt8):dOkB (rsPut txg r t).2.d=true∧(rsPut txg r t).2.d.s0.length=r.d.s0.length:=qcg h _ t
theorem setsB_ok (txg:Int):∀ (l:List CS) (r:RS),dOkB r.d=true→dOkB (setsB txg l r).2.d=true∧(setsB txg l r).2.d.s0.length=r.d.s0.length
 | [],r,h=>⟨h,rfl⟩
 | s::q,r,h=>by
  simp only[setsB]
  split
  ·have h1:=rsPut_ok h txg (mapText s.map)
   have h2:=setsB_ok txg q _ h1.1
   exact⟨h2.1,by rw[h2.2,h1.2]⟩
  ·exact setsB_ok txg q r h
theorem ptsB_ok (txg:Int):∀ (l:List (List UInt8)) (r:RS),dOkB r.d=true→dOkB (ptsB txg l r).2.d=true∧(ptsB txg l r).2.d.s0.length=r.d.s0.length∧(ptsB txg l r).1.length=l.length
 | [],r,h=>⟨h,rfl,rfl⟩
 | t::q,r,h=>by
  simp only[ptsB]
  have h1:=rsPut_ok h txg t
  have h2:=ptsB_ok txg q _ h1.1
  exact⟨h2.1,by rw[h2.2.1,h1.2],by simp[h2.2.2]⟩
theorem blocks_ok {d:DK} (hd:dOkB d=true) (c:CO):dOkB (qag d c).1.d=true∧(qag d c).1.d.s0.length=d.s0.length:=by
 have h1:=setsB_ok (c.txg+1) c.sets ⟨d,freeB c d.s0.length,true⟩ hd
 unfold qag
 simp only
 split
 ·have h2:=ptsB_ok (c.txg+1) (partsT c.ddt) _ h1.1
  have h3:=rsPut_ok h2.1 (c.txg+1) (qbh ⟨c.txg,(setsB (c.txg+1) c.sets ⟨d,freeB c d.s0.length,true⟩).1,c.ddt,(ptsB (c.txg+1) (partsT c.ddt) (setsB (c.txg+1) c.sets ⟨d,freeB c d.s0.length,true⟩).2).1,false,c.safe,c.logn⟩)
  exact⟨h3.1,by rw[h3.2,h2.2.1,h1.2]⟩
 ·have h3:=rsPut_ok h1.1 (c.txg+1) (qbh ⟨c.txg,(setsB (c.txg+1) c.sets ⟨d,freeB c d.s0.length,true⟩).1,c.ddt,c.parts,false,c.safe,c.logn⟩)
  exact⟨h3.1,by rw[h3.2,h1.2]⟩
theorem blocks_T {d:DK} (hd:dOkB d=true) {c:CO} (h:CoT c) (hm:CoM c):CoT (qag d c).2.1∧CoM (qag d c).2.1:=by
 have h1:=setsB_len (c.txg+1) c.sets ⟨d,freeB c d.s0.length,true⟩
 have h2:=setsB_mem (c.txg+1) c.sets ⟨d,freeB c d.s0.length,true⟩
 have h3:=ptsB_ok (c.txg+1) (partsT c.ddt) _ (setsB_ok (c.txg+1) c.sets ⟨d,freeB c d.s0.length,true⟩ hd).1
 have h4:(partsT c.ddt).length≤c.ddt.length:=partsN_len _ _
 have e1:=hm.sets
 have e2:=hm.ddt
 have e3:=hm.parts
 have hp:(qag d c).2.1.parts.length≤1000:=by
  unfold qag
  simp only
  split
  ·exact Nat.le_trans (Nat.le_of_eq h3.2.2) (by omega)
  ·exact e3
 have hs:(qag d c).2.1.sets=(setsB (c.txg+1) c.sets ⟨d,freeB c d.s0.length,true⟩).1:=rfl
 refine⟨⟨by rw[hs];omega,h.ddt,by omega,h.safe,fun s hs'=>?_,fun s hs'=>?_⟩,⟨by rw[hs];omega,e2,hp⟩⟩
 ·obtain⟨t,ht,q1,q2,q3,_⟩:=h2 s (by rw[← hs];exact hs')
  rw[q1];exact h.m8 t ht
 ·obtain⟨t,ht,q1,q2,q3,_⟩:=h2 s (by rw[← hs];exact hs')
  rw[q2,q3];exact h.nm t ht
def doneB (d:DK) (c:CO):DK×CO×Int :=
 if (qag d c).1.ok=false then (d,(qag d c).2.1,7) else
 if (ringB (qbm (qag d c).1.d) (c.txg+1) (qag d c).2.2).2=false then (d,(qag d c).2.1,7) else
 (qbm (ringB (qbm (qag d c).1.d) (c.txg+1) (qag d c).2.2).1,
  ⟨c.txg+1,(qag d c).2.1.sets,(qag d c).2.1.ddt,(qag d c).2.1.parts,(qag d c).2.1.dirty,reachB (qag d c).2.1 (qag d c).2.2.pa,0⟩,0)
theorem sDoneC (d:DK) (hd:dOkB d=true) (c:CO) (h:CoT c) (hm:CoM c) (hf:needsB c≤(freeB c d.s0.length).length) (ht:0≤c.txg∧c.txg<1000000) :
  CV prog 51 [.agg d.row,.agg c.row] (.tup [.agg (doneB d c).1.row,.agg (doneB d c).2.1.row,.int .i64 (doneB d c).2.2]):=by
 obtain⟨R,hR⟩:∃ R,doneB d c=R:=⟨_,rfl⟩
 rw[hR]
 unfold doneB at hR
 have hb1:=blocks_ok hd c
 obtain⟨hb2,hb3⟩:=blocks_T hd h hm
 have cb:=sBlocksF d hd c h hm hf (by omega)
 generalize qag d c=B at *
 obtain⟨⟨bd,bf,bok⟩,c2,root⟩:=B
 simp only at hb1 hb2 hb3 cb hR
 have cf:=sFlushC bd (dOk_T hb1.1)
 have hf1:=flush_ok hb1.1
 have cr:=sRingC (qbm bd) (dOk_T hf1.1) (c.txg+1) root (by omega)
 have hr1:dOkB (ringB (qbm bd) (c.txg+1) root).1=true:=(qcg hf1.1 _ _).1
 have cg:=sFlushC (ringB (qbm bd) (c.txg+1) root).1 (dOk_T hr1)
 generalize ringB (qbm bd) (c.txg+1) root=G at *
 obtain⟨gd,gok⟩:=G
 simp only at cr hr1 cg hR
 have ce:=sReachC ⟨c.txg+1,c2.sets,c2.ddt,c2.parts,c2.dirty,c2.safe,c2.logn⟩ ⟨hb2.sets,hb2.ddt,hb2.parts,hb2.safe,hb2.m8,hb2.nm⟩ ⟨hb3.sets,hb3.ddt,hb3.parts⟩ root.pa
 have hre:reachB ⟨c.txg+1,c2.sets,c2.ddt,c2.parts,c2.dirty,c2.safe,c2.logn⟩ root.pa=reachB c2 root.pa:=rfl
 rw[hre]at ce
 simp only[DK.row,CO.row,PT.row]at cb cf cr cg ce
 refine cvx func51 [(3,[zJ 0 [2] [],zJ 1 [3] [2],zJ 2 [] [3],zI 3,zI 4]),(4,[zI 0,zI 1,zI 2,zJ 3 [14] [],zJ 5 [] [14],zJ 6 [] [14],zJ 7 [] [14],zJ 8 [14] [14],zJ 9 [8,14] [14],⟨4,[],[14,8],[14],[]⟩,⟨10,[],[],[14],[]⟩,zI 11,zI 12,zI 13,zJ 14 [] [14,8],zI 15,zI 16]),(6,[zJ 0 [2] [],zJ 1 [3] [2],zJ 2 [] [3],zI 3,zI 4]),(10,[zJ 0 [9] [],zJ 2 [3] [9],zJ 1 [] [3],zJ 3 [] [3],zI 4,zI 5])] ntmps51 rfl rfl rfl ?_ (hca:=by simp[DK.row]) (hcv:=by simp[DK.row])
 simp -implicitDefEqProofs [DK.row,CO.row]
 refine qac [] (by kernel_rfl) cb (by simp) (by simp) trivial (by simp) (by simp) ?_
 rintro r L' ⟨rfl,rfl⟩
 refine⟨[(25,14)],⟨by simp,by simp,by simp,by simp,by simp⟩,?_⟩
 simp only[qae]
 simp -implicitDefEqProofs [runOb]
 refine⟨fun q1=>?_,fun q1=>?_⟩
 ·rw[if_pos q1]at hR
  subst hR
  simp
 ·rw[if_neg (by simp[q1])]at hR
  refine cf.call ?_
  simp -implicitDefEqProofs
  refine cr.call ?_
  cases gok with
  | false =>
   rw[if_pos rfl]at hR
   simp -implicitDefEqProofs [← hR]
  | true =>
   rw[if_neg (by simp)]at hR
   simp -implicitDefEqProofs
   refine ce.call ?_
   simp -implicitDefEqProofs
   refine cg.call ?_
   simp -implicitDefEqProofs [← hR]
end Go.Av.F

end
section
namespace Go.Av.F
open Go Go.Av Go.Proofs Go.Proofs.Tryz
def zK:CO:=⟨0,[],[],[],false,[],0⟩
theorem impA_zk:impA (.agg [.int .i64 0,.nils,.nils,.nils,.bool false,.nils,.int .i64 0]) (.agg zK.row) :=
 impA_ag (.cons (qaz _) (.cons (qby 31) (.cons (qby 3) (.cons (qby 3) (.cons (qaz _) (.cons (qby 1) (.cons (qaz _) .nil)))))))
theorem coreOk_M {c:CO} (h:qah c=true):CoM c∧c.sets.length≤6∧c.ddt.length≤48∧c.parts.length≤8∧0≤c.txg∧c.txg≤1000000∧0≤c.logn∧c.logn≤8:=by
 have hb:=(okB_iff.1 (core_book h)).1
 have hd:=(ddt_ec (core_ddt h)).1
 simp only[qah,Bool.and_eq_true,decide_eq_true_eq]at h
 have h1:=h.1.1.1.1.1.1.1.1.1.1.1
 have h2:=h.1.1.1.1.1.1.1.1.1.1.2
 have h3:=h.1.1.1.1.1.1.1.1.2
 have h4:=h.1.1.1.1.1.1.2
 have h5:=h.1.1.1.1.1.2
 simp only[List.length_map]at hb
 exact⟨⟨by omega,by omega,by omega⟩,hb,hd,h3,h1,h2,h4,h5⟩
def qak (d:DK) (c:CO):DK×CO×Int :=
 if dOkB d=false∨qah c=false∨d.s0.length≤13 then (zDK,zK,5) else
 if mayDoB d c=false then (d,c,7) else
 if (doneB d c).2.2≠0 then (d,c,(doneB d c).2.2) else doneB d c
theorem sCommitC (d:DK) (hd:DkT d) (c:CO) (h:CoT c):CV prog 24 [.agg d.row,.agg c.row] (.tup [.agg (qak d c).1.row,.agg (qak d c).2.1.row,.int .i64 (qak d c).2.2]):=by
 obtain⟨R,hR⟩:∃ R,qak d c=R:=⟨_,rfl⟩
 rw[hR]
 unfold qak at hR
 have c1:=sDiskOkC d hd
 have c2:=sCoreOk c h
 have c3:=sCopyC d hd
 have c4:=sKCopyC c h
 have hl:=hd.l0
 refine CV.of_imp ?_ (hca:=by simp[DK.row]) (hcv:=by simp[DK.row])
 refine acx func24 [(4,[zJ 0 [2] [],zJ 2 [3] [2],zJ 1 [] [3],zI 3,zI 4,zI 5,zI 6]),(5,[zJ 0 [2] [],zJ 2 [3] [2],⟨1,[],[3],[8,9],[]⟩,⟨3,[],[],[8,9],[]⟩,zI 4,zI 5,zI 6,zI 7,zJ 8 [] [2,3],zJ 9 [] [2,3],zI 10,zI 11,zI 12]),(7,[zJ 0 [2] [],zJ 2 [3] [2],zJ 4 [] [2,3],zJ 1 [] [3],zI 3,zI 5,zI 6,zI 7]),(8,[zJ 0 [7] [],zJ 1 [8] [7],zJ 2 [] [7,8],zJ 3 [] [8],zI 4,zI 5])] ntmps24 rfl rfl rfl ?_
 simp only[DK.row,CO.row]at c1 c2 c3 c4
 simp -implicitDefEqProofs [DK.row,CO.row]
 refine c1.call ?_
 have zimp:impA (.tup [.agg [.nils,.nils,.nils],.agg [.int .i64 0,.nils,.nils,.nils,.bool false,.nils,.int .i64 0],.int .i64 5]) (.tup [.agg zDK.row,.agg zK.row,.int .i64 5]):=impA_tu (.cons impA_zd (.cons impA_zk (.cons (qaz _) .nil)))
 cases hok:dOkB d with
 | false =>
  rw[if_pos (.inl hok)]at hR
  subst hR
  simp -implicitDefEqProofs
  simpa [zDK,zK,DK.row,CO.row]using zimp
 | true =>
  simp -implicitDefEqProofs
  refine c2.call ?_
  cases hco:qah c with
  | false =>
   rw[if_pos (.inr (.inl hco))]at hR
   subst hR
   simp -implicitDefEqProofs
   simpa [zDK,zK,DK.row,CO.row]using zimp
  | true =>
   obtain⟨hm,k1,k2,k3,k4,k5,k6,k7⟩:=coreOk_M hco
   by_cases hn:d.s0.length≤13
   ·rw[if_pos (.inr (.inr hn))]at hR
    subst hR
    have hn':(d.s0.length:Int)≤13:=by omega
    simp -implicitDefEqProofs [hn']
    simpa [zDK,zK,DK.row,CO.row]using zimp
   ·rw[if_neg (by simp[hok,hco,hn])]at hR
    have hn':¬ (d.s0.length:Int)≤13:=by omega
    have c5:=sMayDoC d hd c h hm
    simp only[DK.row,CO.row]at c5
    simp -implicitDefEqProofs [hn']
    refine c5.call ?_
    cases hma:mayDoB d c with
    | false =>
     rw[if_pos hma]at hR
     subst hR
     simp -implicitDefEqProofs
     refine c3.call ?_
     simp -implicitDefEqProofs
     refine c4.call ?_
     simp -implicitDefEqProofs
    | true =>
     rw[if_neg (by simp[hma])]at hR
     have hma2:=hma
     simp only[mayDoB,Bool.and_eq_true,decide_eq_true_eq]at hma2
     have c6:=sDoneC d hok c h hm hma2.2 (by omega)
     generalize doneB d c=D at *
     obtain⟨dd,dc,code⟩:=D
     simp only[DK.row,CO.row]at c6 hR
     simp -implicitDefEqProofs
     refine c3.call ?_
     simp -implicitDefEqProofs
     refine c6.call ?_
     simp -implicitDefEqProofs
     refine⟨fun q=>?_,fun q=>?_⟩
     ·rw[if_pos q]at hR
      subst hR
      refine c3.call ?_
      simp -implicitDefEqProofs
      refine c4.call ?_
      simp -implicitDefEqProofs
     ·rw[if_neg (by simp[q])]at hR
      subst hR
      simp -implicitDefEqProofs
end Go.Av.F

end
section
namespace Go.Av
open Go Go.Proofs
variable {P:Program}
theorem ACall.hps {f:Nat} {args:List AV} {L:List (Nat×Ob)} {R R':AV→List (Nat×Ob)→Prop} (h:ACall P f args L R) (hr:∀ r L',R r L'→∃ L2,(∀ i,hpOf L2 i=hpOf L' i)∧R' r L2):ACall P f args L R':=by
 intro w Z γ vs hv hh hg
 refine(h w Z γ vs hv hh hg).mono ?_
 rintro e w' ⟨v,r,L',Z',γ',h1,h2,h3⟩
 obtain⟨L2,he,hR⟩:=hr r L' h2
 have:hpOf L'=hpOf L2:=funext fun i=>(he i).symm
 rw[this]at h3
 exact⟨v,r,L2,Z',γ',h1,hR,h3⟩
end Go.Av
namespace Go.Av.F
open Go Go.Av Go.Proofs Go.Proofs.Tryz
def coreS (c:CO) (id:Nat):AV:=.agg [.int .i64 c.txg,.sl id 0 c.sets.length,.lst 3 (c.ddt.map DE.row),.lst 3 (c.parts.map PT.row),.bool c.dirty,.lst 1 (c.safe.map qaw),.int .i64 c.logn]
theorem sKCopyS (c:CO) (h:CoT c):ACall prog 50 [.agg c.row] [] (fun r L'=>r=coreS c 8∧L'=[(8,kcs c.sets)]):=by
 refine((sKCopyO c h).hps (R':=fun r L'=>r=coreA c 8 12 17 22∧L'=[(12,deOb c.ddt),(17,kpt c.parts),(22,kin c.safe)]++[(8,kcs c.sets)]) ?_).frzP ?_
 ·rintro r L' ⟨rfl,rfl⟩
  refine⟨_,fun i=>?_,rfl,rfl⟩
  by_cases h1:i=8
  ·subst h1;simp
  ·by_cases h2:i=12
   ·subst h2;simp
   ·by_cases h3:i=17
    ·subst h3;simp
    ·by_cases h4:i=22
     ·subst h4;simp
     ·simp[h1,h2,h3,h4]
 ·rintro r L' ⟨rfl,rfl⟩
  refine⟨_,_,rfl,by simp,by simp,fun x hx=>?_,?_,rfl⟩
  ·simp only[List.cons_append,List.nil_append,List.mem_cons,List.not_mem_nil,or_false]at hx
   rcases hx with rfl | rfl | rfl | rfl
   ·exact clR_de _
   ·exact clR_kpt _
   ·exact clR_kin _
   ·exact qbk _
  ·simp[qcf,coreA,coreS,deOb,kpt,kin,qap]
def refB (more:Bool) (l:List DE) (p:PT):List DE×Bool:=if more=true then qbz l p.ps p.pa else qbg l p.pa
def refsL (more:Bool):List PT→List DE×Bool×Bool→List DE×Bool×Bool
 | [],x=>x
 | p::q,x=>if p.pa=0 then refsL more q x else refsL more q ((refB more x.1 p).1,true,x.2.2 && (refB more x.1 p).2)
theorem refB_len (more:Bool) (l:List DE) (p:PT):(refB more l p).1.length≤l.length+1:=by
 unfold refB qbz qbg
 have:=ddP_le l p.pa
 repeat' split
 all_goals simp <;> omega
theorem flat_cell {l:List PT} {i k:Nat} {p:PT} (h:l[i]?=some p) (hk:k<3):(l.flatMap PT.row)[i * 3+k]?=p.row[k]?:=by
 have h2:=congrArg (fun r:List AV=>r[k]?) (flat_at h)
 simp only[List.getElem?_take,List.getElem?_drop,hk,if_true]at h2
 exact h2
theorem sRefsC (c:CO) (m:List PT) (h8:m.length=8) (more:Bool) (hd:c.ddt.length≤1000000) (hs:c.sets.length≤1048576) :
  ACall prog 88 [coreS c 1000,.agg (m.flatMap PT.row),.bool more] [(1000,kcs c.sets)]
   (fun r L'=>r=.tup [coreS ⟨c.txg,c.sets,(refsL more m (c.ddt,c.dirty,true)).1,c.parts,(refsL more m (c.ddt,c.dirty,true)).2.1,c.safe,c.logn⟩ 1000,.bool (refsL more m (c.ddt,c.dirty,true)).2.2]∧L'=[(1000,kcs c.sets)]):=by
 obtain⟨X,hX⟩:∃ X,refsL more m (c.ddt,c.dirty,true)=X:=⟨_,rfl⟩
 rw[hX]
 refine acx func88 [(8,[zI 0,zJ 1 [3] [],zJ 2 [] [3],zJ 3 [] [3],zJ 4 [] [3],zJ 5 [4] [3],zJ 6 [] [3,4],zJ 7 [] [3,4],zJ 8 [] [3,4],zJ 9 [4] [3,4],zI 10,zI 11,zI 12,zI 13,zI 14,zI 15,zI 16]),(9,[zI 0,zJ 1 [3] [],zJ 2 [] [3],zJ 3 [] [3],zJ 4 [] [3],zJ 5 [4] [3],zI 6,zI 7,zI 8,zI 9,zI 10,zI 11,zI 12])] ntmps88 rfl rfl rfl ?_
 simp -implicitDefEqProofs [coreS,sum3 h8]
 refine ev_lp (X:=Nat×(List DE×Bool×Bool)) [2,3,4,6,7,8,9] [(1000,1000),(3,3),(4,4),(6,6)] (fun x=>[(8,.bool x.2.2.2),(9,.int .i64 x.1)])
  (fun x=>[(3,⟨7,[[.int .i64 c.txg,.sl 1000 0 c.sets.length,.lst 3 (x.2.1.map DE.row),.lst 3 (c.parts.map PT.row),.bool x.2.2.1,.lst 1 (c.safe.map qaw),.int .i64 c.logn]]⟩)]) (fun x=>8-x.1)
  (fun x=>x.1≤8∧x.2.1.length≤1000000+x.1∧refsL more (m.drop x.1) x.2=X) (0,(c.ddt,c.dirty,true)) ⟨by simp,by simp only;omega,by simpa using hX⟩ ?_ (he:=by simp[obOf])
 rintro⟨i,l,dt,ok⟩ ⟨hi,hl,hd2⟩
 simp only at hi hl hd2
 cases hr:m.drop i with
 | nil =>
  have:=dropn hr
  rw[hr]at hd2
  have hie:i=8:=by omega
  subst hie
  simp only[refsL]at hd2
  subst hd2
  simp -implicitDefEqProofs [obOf]
 | cons p q =>
  obtain⟨k1,e0,e1,k3⟩:=dropc hr
  rw[hr]at hd2
  simp only[refsL]at hd2
  have hi8:i<8:=by omega
  have hli:(i:Int)<8:=by omega
  have e2:=i64w ((i:Int)+1) (by omega) (by omega)
  have f0:=flat_cell e1 (k:=0) (by omega)
  have f1:=flat_cell e1 (k:=1) (by omega)
  have c1:=sAddC l p.ps p.pa (by omega)
  have c2:=sDropC l p.pa (by omega)
  have hrl:=refB_len more l p
  have f0':(m.flatMap PT.row)[i * 3]?=some (.int .i64 p.pa):=by simpa [PT.row]using f0
  have f1':(m.flatMap PT.row)[i * 3+1]?=some (.int .i64 p.ps):=by simpa [PT.row]using f1
  have hN:∀ (x:List DE×Bool×Bool),refsL more q x=X→x.1.length≤1000000+(i+1)→(i+1≤8∧x.1.length≤1000000+(i+1)∧refsL more (m.drop (i+1)) x=X):=fun x h1 h2=>⟨by omega,h2,by rw[k3];exact h1⟩
  simp -implicitDefEqProofs [obOf,hli,f0',f1']
  refine⟨by omega,fun q1=>?_,fun q1=>?_⟩
  ·rw[if_pos q1]at hd2
   exact nx (i+1,l,dt,ok) [(1000,1000),(3,3),(4,4),(6,6)] (hN _ hd2 (by simp only;omega)) (by simp only;omega) (h4:=by simp[obOf,e2])
  ·rw[if_neg q1]at hd2
   have hrl2:(refB more l p).1.length≤1000000+(i+1):=by omega
   cases more with
   | true =>
    have hrb:refB true l p=qbz l p.ps p.pa:=rfl
    rw[hrb]at hd2 hrl2
    generalize qbz l p.ps p.pa=Y at *
    obtain⟨yl,yo⟩:=Y
    simp -implicitDefEqProofs
    refine⟨by omega,by omega,?_⟩
    refine c1.call ?_
    cases ok
    all_goals
     simp -implicitDefEqProofs
     exact nx (i+1,yl,true,_) [(1000,1000),(3,3),(4,4),(6,6)] (hN _ hd2 hrl2) (by simp only;omega) (h4:=by simp[obOf,e2])
   | false =>
    have hrb:refB false l p=qbg l p.pa:=rfl
    rw[hrb]at hd2 hrl2
    generalize qbg l p.pa=Y at *
    obtain⟨yl,yo⟩:=Y
    simp -implicitDefEqProofs
    refine⟨by omega,?_⟩
    refine c2.call ?_
    cases ok
    all_goals
     simp -implicitDefEqProofs
     exact nx (i+1,yl,true,_) [(1000,1000),(3,3),(4,4),(6,6)] (hN _ hd2 hrl2) (by simp only;omega) (h4:=by simp[obOf,e2])
end Go.Av.F

end
section
namespace Go.Av.F
open Go Go.Av Go.Proofs Go.Proofs.Tryz
theorem logText_len (r:LR):(logText r).length≤70000:=by
 unfold logText
 split
 ·simp
 ·exact sealB_len _
def qcc (d:DK) (c:CO) (op:BO):DK×CO×Bool :=
 if logText ⟨c.txg,c.logn,op⟩=[] then (d,c,false) else
 if (qat d (5+c.logn) (logText ⟨c.txg,c.logn,op⟩)).2=false then (d,c,false) else
 ((qat d (5+c.logn) (logText ⟨c.txg,c.logn,op⟩)).1,⟨c.txg,c.sets,c.ddt,c.parts,c.dirty,c.safe,c.logn+1⟩,true)
def findR (d:DK) (text:List UInt8):List DE→Int
 | []=>0
 | e::r=>if e.es=smB text∧(blkReadB d ⟨e.ea,smB text,0⟩).2=0∧(blkReadB d ⟨e.ea,smB text,0⟩).1=text then e.ea else findR d text r
def findDB (d:DK) (l:List DE) (text:List UInt8):Int:=if qaf l=true then findR d text l else 0
theorem sFindC (d:DK) (hd:DkT d) (l:List DE) (text:List UInt8) (hl:l.length≤1048576) (ht:text.length≤maxLen) :
  CV prog 108 [.agg d.row,.lst 3 (l.map DE.row),.str text] (.int .i64 (findDB d l text)):=by
 obtain⟨R,hR⟩:∃ R,findDB d l text=R:=⟨_,rfl⟩
 rw[hR]
 unfold findDB at hR
 have c0:=sSumC text ht
 have c1:=sDdtOkC l hl
 refine cvx func108 [(6,[zJ 0 [3] [],zJ 1 [] [3],zJ 2 [] [3],zJ 3 [] [3],zJ 4 [] [3],zJ 5 [] [3],zJ 6 [] [3],zJ 7 [] [3],zI 8,zI 9,zI 10,zI 11,zI 12,zI 13])] ntmps108 rfl rfl rfl ?_ (hca:=by simp[DK.row,DE.row])
 simp -implicitDefEqProofs [DK.row]
 refine c0.call ?_
 simp -implicitDefEqProofs
 refine ev_lp (X:=Nat) [1,2,3,6,7,8] [(3,3)] (fun i=>[(8,.int .i64 i)]) (fun _=>[]) (fun i=>l.length-i) (fun i=>i≤l.length∧(if qaf l=true then findR d text (l.drop i) else 0)=R) 0 ⟨by simp,by simpa using hR⟩ ?_ (he:=by simp[obOf])
 rintro i ⟨hi,hd2⟩
 cases hok:qaf l with
 | false =>
  rw[hok]at c1
  rw[if_neg (by simp[hok])]at hd2
  simp -implicitDefEqProofs [obOf]
  refine c1.call ?_
  simp -implicitDefEqProofs [← hd2]
 | true =>
  rw[hok]at c1
  rw[if_pos hok]at hd2
  cases hr:l.drop i with
  | nil =>
   have:=dropn hr
   rw[hr]at hd2
   have hie:i=l.length:=by omega
   subst hie
   simp only[findR]at hd2
   simp -implicitDefEqProofs [obOf]
   refine c1.call ?_
   simp -implicitDefEqProofs [← hd2]
  | cons e q =>
   obtain⟨k1,e0,e1,k3⟩:=dropc hr
   rw[hr]at hd2
   simp only[findR]at hd2
   have hli:(i:Int)<l.length:=by omega
   have e2:=i64w ((i:Int)+1) (by omega) (by omega)
   have c2:=sBlkReadC d hd ⟨e.ea,smB text,0⟩
   have hN:¬ (e.es=smB text∧(blkReadB d ⟨e.ea,smB text,0⟩).2=0∧(blkReadB d ⟨e.ea,smB text,0⟩).1=text)→findR d text (l.drop (i+1))=R:=fun h=>by rw[if_neg h]at hd2;rw[k3];exact hd2
   have hY:(e.es=smB text∧(blkReadB d ⟨e.ea,smB text,0⟩).2=0∧(blkReadB d ⟨e.ea,smB text,0⟩).1=text)→e.ea=R:=fun h=>by rw[if_pos h]at hd2;exact hd2
   generalize blkReadB d ⟨e.ea,smB text,0⟩=Y at *
   obtain⟨yt,yc⟩:=Y
   simp only[DK.row,PT.row]at c2
   simp -implicitDefEqProofs [obOf]
   refine c1.call ?_
   simp -implicitDefEqProofs [hli,k1,e0,e1,DE.row,obOf]
   refine⟨fun q1=>?_,fun q1=>nx (i+1) [(3,3)] ⟨by omega,?_⟩ (h4:=by simp[obOf,e2])⟩
   ·refine c2.call ?_
    simp -implicitDefEqProofs
    refine⟨fun q2=>⟨fun q3=>?_,fun q3=>?_⟩,fun q2=>?_⟩
    ·exact⟨k1,by simp[e1,DE.row],by rw[e1];simpa [DE.row]using hY ⟨q1,q2,q3⟩⟩
    ·exact nx (i+1) [(3,3)] ⟨by omega,hN fun h=>q3 h.2.2⟩ (h4:=by simp[obOf,e2])
    ·exact nx (i+1) [(3,3)] ⟨by omega,hN fun h=>q2 h.2.1⟩ (h4:=by simp[obOf,e2])
   ·exact hN fun h=>q1 h.1
def blockB (d:DK) (c:CO) (text:List UInt8):DK×Int×Int :=
 if 0<findDB d c.ddt text then (d,findDB d c.ddt text,0) else
 if mayB c d.s0.length=false then (d,0,7) else
 if (qat d ((freeB c d.s0.length).headD 0) text).2=false then (d,0,7) else
 ((qat d ((freeB c d.s0.length).headD 0) text).1,(freeB c d.s0.length).headD 0,0)
end Go.Av.F

end
section
namespace Go.Av.F
open Go Go.Av Go.Proofs Go.Proofs.Tryz
def zPT:PT:=⟨0,0,0⟩
def oneM (p:PT):List PT:=[p,zPT,zPT,zPT,zPT,zPT,zPT,zPT]
def turnG (d x:DK) (c:CO) (k i:Nat) (s:CS) (old now:PT):DK×CO×Int :=
 let a:=refsL true (oneM now) (c.ddt,c.dirty,true)
 let b:=refsL false (oneM old) (a.1,a.2.1,true)
 if a.2.2=false∨b.2.2=false then (d,c,7) else
 (x,⟨c.txg,c.sets.set k ⟨s.name,s.kind,s.frm,s.map.set i now,s.home,true⟩,b.1,c.parts,b.2.1,c.safe,c.logn⟩,0)
def turnB (d:DK) (c:CO) (k i:Nat) (text:List UInt8):DK×CO×Int :=
 match c.sets[k]? with
 | none=>(d,c,7)
 | some s =>
  let old:=s.map[i]?.getD zPT
  if text=[] then turnG d d c k i s old zPT else
  if c.txg=1000000 then (d,c,7) else
  if (blockB d c text).2.2≠0 then (d,c,(blockB d c text).2.2) else
  if (blockB d c text).2.1=old.pa then ((blockB d c text).1,c,0) else
  turnG d (blockB d c text).1 c k i s old (blkToB (blockB d c text).2.1 text (c.txg+1))
theorem tk3 {X F:List AV} {n k:Nat} (h:X.length=k):List.take (k+n) (X++F)=X++List.take n F:=by
 subst h
 rw[List.take_append,List.take_of_length_le (by omega)]
 congr 2;omega
theorem dp3 {X F:List AV} {n k:Nat} (h:X.length=k):List.drop (k+n) (X++F)=List.drop n F:=by
 subst h
 rw[List.drop_append,List.drop_of_length_le (by omega),List.nil_append]
 congr 1;omega
theorem flat_set:∀ (l:List PT) (i:Nat) (p:PT),i<l.length→(l.set i p).flatMap PT.row=(l.flatMap PT.row).take (i * 3)++(p.row++(l.flatMap PT.row).drop (i * 3+3))
 | [],i,p,h=>by simp at h
 | x::q,0,p,h=>by simp[PT.row]
 | x::q,i+1,p,h=>by
  have ih:=flat_set q i p (by simpa using h)
  have hx:x.row.length=3:=rfl
  rw[List.set_cons_succ,List.flatMap_cons,ih,List.flatMap_cons,show(i+1) * 3=3+i * 3 by omega,tk3 hx,show 3+i * 3+3=3+(i * 3+3) by omega,dp3 hx,List.append_assoc]
theorem cs_turn (s:CS) (h8:s.map.length=8) {i:Nat} (hi:i<8) (p:PT):List.take 30 (List.take (3+i * 3) s.row++.int .i64 p.pa::.int .i64 p.ps::.int .i64 p.pb::List.drop (3+i * 3+3) s.row) ++
  .bool true::List.drop 31 (List.take (3+i * 3) s.row++.int .i64 p.pa::.int .i64 p.ps::.int .i64 p.pb::List.drop (3+i * 3+3) s.row)=CS.row ⟨s.name,s.kind,s.frm,s.map.set i p,s.home,true⟩:=by
 have hl:(s.map.flatMap PT.row).length=24:=by
  rw[List.length_flatMap];exact sum3 h8
 have hf:=flat_set s.map i p (by omega)
 have hh:s.home.row.length=3:=rfl
 have e:s.row=[.str s.name,.int .i64 s.kind,.str s.frm]++(s.map.flatMap PT.row++(s.home.row++[.bool s.dirty])):=by simp[CS.row]
 have h3:([.str s.name,.int .i64 s.kind,.str s.frm]:List AV).length=3:=rfl
 have t1:List.take (3+i * 3) s.row=[.str s.name,.int .i64 s.kind,.str s.frm]++(s.map.flatMap PT.row).take (i * 3):=by
  rw[e,tk3 h3,List.take_append_of_le_length (by omega)]
 have t2:List.drop (3+i * 3+3) s.row=(s.map.flatMap PT.row).drop (i * 3+3)++(s.home.row++[.bool s.dirty]):=by
  rw[e,show 3+i * 3+3=3+(i * 3+3) by omega,dp3 h3,List.drop_append_of_le_length (by omega)]
 rw[t1,t2]
 have e2:([.str s.name,.int .i64 s.kind,.str s.frm]++(s.map.flatMap PT.row).take (i * 3))++.int .i64 p.pa::.int .i64 p.ps::.int .i64 p.pb::((s.map.flatMap PT.row).drop (i * 3+3)++(s.home.row++[.bool s.dirty])) =
   ([.str s.name,.int .i64 s.kind,.str s.frm]++(((s.map.set i p).flatMap PT.row)++s.home.row))++[.bool s.dirty]:=by
  rw[hf];simp[PT.row]
 have hl2:((s.map.set i p).flatMap PT.row).length=24:=by
  rw[List.length_flatMap];exact sum3 (by simpa using h8)
 rw[e2,List.take_left' (by simp[hl2]),List.drop_of_length_le (by simp[hl2])]
 simp[CS.row]
theorem refsL_len (more:Bool):∀ (m:List PT) (x:List DE×Bool×Bool),(refsL more m x).1.length≤x.1.length+m.length
 | [],x=>by simp[refsL]
 | p::q,x=>by
  simp only[refsL]
  split
  ·have:=refsL_len more q x
   simp;omega
  ·have h1:=refsL_len more q ((refB more x.1 p).1,true,x.2.2 && (refB more x.1 p).2)
   have h2:=refB_len more x.1 p
   simp at h1 ⊢;omega
end Go.Av.F

end
section
namespace Go.Av.F
open Go Go.Av Go.Proofs Go.Proofs.Tryz
def nmP (l:List CS) (n:List UInt8):Nat:=(l.takeWhile fun x=>Op.bytesLess x.name n).length
theorem nmP_le (l:List CS) (n:List UInt8):nmP l n≤l.length:=(List.takeWhile_prefix _).length_le
def newB' (c:CO) (s:CS):CO×Bool :=
 let x:=refsL true s.map (c.ddt,c.dirty,true)
 (⟨c.txg,c.sets.take (nmP c.sets s.name)++⟨s.name,s.kind,s.frm,s.map,s.home,true⟩::c.sets.drop (nmP c.sets s.name),x.1,c.parts,x.2.1,c.safe,c.logn⟩,x.2.2)
theorem cs_dirt (s:CS) (h8:s.map.length=8):List.take 30 s.row++.bool true::List.drop 31 s.row=CS.row ⟨s.name,s.kind,s.frm,s.map,s.home,true⟩:=by
 have hl:(s.map.flatMap PT.row).length=24:=by
  rw[List.length_flatMap];exact sum3 h8
 have hh:s.home.row.length=3:=rfl
 have e:s.row=(.str s.name::.int .i64 s.kind::.str s.frm::(s.map.flatMap PT.row++s.home.row))++[.bool s.dirty]:=by simp[CS.row]
 have h30:(.str s.name::.int .i64 s.kind::.str s.frm::(s.map.flatMap PT.row++s.home.row):List AV).length=30:=by simp[hl,hh]
 rw[List.drop_of_length_le (by rw[qay s h8];omega),e,List.take_left' h30]
 simp[CS.row]
theorem sNewO (c:CO) (hm:CoM c) (h8:∀ s∈c.sets,s.map.length=8) (s:CS) (hs8:s.map.length=8) :
  ACall prog 87 [coreS c 1000,.agg s.row] [(1000,kcs c.sets)] (fun r L'=>r=.tup [coreS (newB' c s).1 41,.bool (newB' c s).2]∧L'=[(41,kcs (newB' c s).1.sets)]):=by
 have h1:=hm.sets
 have hk:=nmP_le c.sets s.name
 have hnl:s.row.length=31:=qay s hs8
 refine acx func87 [(2,[zI 0,zI 1,zJ 2 [2] [],zI 3,zI 4,zI 5,zI 6,zJ 7 [2] [],zJ 8 [] [2],zJ 9 [1000] [],zI 10,zJ 11 [1000] [],zJ 12 [] [2,1000],zJ 13 [3] [2,1000],zI 14,zI 15]),(6,[zI 0,zJ 1 [2] [],zJ 2 [] [2],zJ 3 [1000] [],zJ 4 [3] [2,1000],zJ 7 [] [2,1000,3],zJ 5 [] [2,1000],zI 6,zI 8,zI 9,zI 10])] ntmps87 rfl rfl rfl ?_
 simp -implicitDefEqProofs [coreS,qay s hs8]
 refine ev_lp (X:=Nat) [2,3,4,5,6] [(1000,1000),(2,2),(3,3),(4,4)] (fun i=>[(6,.int .i64 i)]) (fun _=>[]) (fun i=>c.sets.length-i) (fun i=>i≤c.sets.length∧i+nmP (c.sets.drop i) s.name=nmP c.sets s.name) 0 (by simp) ?_ (he:=by simp[obOf])
 rintro i ⟨hi,hd⟩
 cases hr:c.sets.drop i with
 | nil =>
  have:=dropn hr
  rw[hr]at hd
  have hie:i=c.sets.length:=by omega
  have hf:nmP c.sets s.name=i:=by simpa [nmP]using hd.symm
  subst hie
  obtain⟨S2,hS2⟩:∃ S2:CS,S2=⟨s.name,s.kind,s.frm,s.map,s.home,true⟩:=⟨_,rfl⟩
  have hrow:=cs_dirt s hs8
  rw[← hS2]at hrow
  have hS28:S2.map.length=8:=by rw[hS2];exact hs8
  have hS2m:S2.map=s.map:=by rw[hS2]
  obtain⟨c2,hc2⟩:∃ c2:CO,c2=⟨c.txg,c.sets++S2::([]:List CS),c.ddt,c.parts,c.dirty,c.safe,c.logn⟩:=⟨_,rfl⟩
  have hN:newB' c s=(⟨c.txg,c2.sets,(refsL true s.map (c.ddt,c.dirty,true)).1,c.parts,(refsL true s.map (c.ddt,c.dirty,true)).2.1,c.safe,c.logn⟩,(refsL true s.map (c.ddt,c.dirty,true)).2.2):=by
   unfold newB'
   simp only[hf,hc2,hS2,List.take_length,List.drop_length]
  have hl2:c2.sets.length=c.sets.length+1:=by rw[hc2];simp
  have hrows:c2.sets.map CS.row=(c.sets).map CS.row++(S2.row::(([]:List CS)).map CS.row):=by rw[hc2];simp
  have r1:=sRefsC c2 s.map hs8 true (by rw[hc2];simp only;have:=hm.ddt;omega) (by omega)
  have hcd:c2.ddt=c.ddt∧c2.dirty=c.dirty∧c2.txg=c.txg∧c2.parts=c.parts∧c2.safe=c.safe∧c2.logn=c.logn:=by rw[hc2];exact⟨rfl,rfl,rfl,rfl,rfl,rfl⟩
  simp only[coreS,hcd,hl2]at r1
  rw[hN]
  generalize refsL true s.map (c.ddt,c.dirty,true)=Y at *
  obtain⟨yl,yd,yo⟩:=Y
  simp -implicitDefEqProofs [obOf,qay s hs8,kcs,hrow,cs_take S2 hS28,cs_map24 S2 hS28,hS2m]
  refine⟨qay S2 hS28,⟨by omega,cs_ones S2⟩,by omega,?_⟩
  have e6:List.take (c.sets.length+1) (List.take c.sets.length (List.map CS.row c.sets)++[S2.row])=c2.sets.map CS.row:=by
   rw[hrows,qap,List.take_of_length_le (by simp)];simp
  rw[e6]
  refine qac [(1000,.whole 41)] (by kernel_rfl) r1 (by simp;exact mtL_cl _ (clL_pts _)) (by simp) (by simp[kcs];exact qad rfl (qbk _)) (by simp) (by simp) ?_
  rintro r L' ⟨rfl,rfl⟩
  refine⟨[],⟨by simp,by simp,by simp,by simp,by simp⟩,?_⟩
  simp only[qae]
  simp -implicitDefEqProofs [hl2]
  rfl
 | cons x q =>
  obtain⟨k1,e0,e1,k3⟩:=dropc hr
  rw[hr]at hd
  have hx8:=h8 x (List.mem_of_getElem? e1)
  have hli:(i:Int)<c.sets.length:=by omega
  have e2:=i64w ((i:Int)+1) (by omega) (by omega)
  have hx0:x.row[0]?=some (.str x.name):=rfl
  have hs0:s.row[0]?=some (.str s.name):=rfl
  cases hb:Op.bytesLess x.name s.name with
  | true =>
   have hp:nmP (x::q) s.name=nmP q s.name+1:=by simp[nmP,List.takeWhile_cons,hb]
   simp -implicitDefEqProofs [obOf,kcs,hli,k1,e0,e1,qay x hx8,qay s hs8,hb]
   exact nx (i+1) [(1000,1000),(2,2),(3,3),(4,4)] ⟨by omega,by rw[k3];omega⟩ (h4:=by simp[obOf,e2,kcs])
  | false =>
   have hp:nmP (x::q) s.name=0:=by simp[nmP,List.takeWhile_cons,hb]
   have hf:nmP c.sets s.name=i:=by omega
   obtain⟨S2,hS2⟩:∃ S2:CS,S2=⟨s.name,s.kind,s.frm,s.map,s.home,true⟩:=⟨_,rfl⟩
   have hrow:=cs_dirt s hs8
   rw[← hS2]at hrow
   have hS28:S2.map.length=8:=by rw[hS2];exact hs8
   have hS2m:S2.map=s.map:=by rw[hS2]
   obtain⟨c2,hc2⟩:∃ c2:CO,c2=⟨c.txg,c.sets.take i++S2::c.sets.drop i,c.ddt,c.parts,c.dirty,c.safe,c.logn⟩:=⟨_,rfl⟩
   have hN:newB' c s=(⟨c.txg,c2.sets,(refsL true s.map (c.ddt,c.dirty,true)).1,c.parts,(refsL true s.map (c.ddt,c.dirty,true)).2.1,c.safe,c.logn⟩,(refsL true s.map (c.ddt,c.dirty,true)).2.2):=by
    unfold newB'
    simp only[hf,hc2,hS2]
   have hl2:c2.sets.length=c.sets.length+1:=by rw[hc2];simp;omega
   have hrows:c2.sets.map CS.row=(c.sets.take i).map CS.row++(S2.row::(c.sets.drop i).map CS.row):=by rw[hc2];simp
   have r1:=sRefsC c2 s.map hs8 true (by rw[hc2];simp only;have:=hm.ddt;omega) (by omega)
   have hcd:c2.ddt=c.ddt∧c2.dirty=c.dirty∧c2.txg=c.txg∧c2.parts=c.parts∧c2.safe=c.safe∧c2.logn=c.logn:=by rw[hc2];exact⟨rfl,rfl,rfl,rfl,rfl,rfl⟩
   simp only[coreS,hcd,hl2]at r1
   rw[hN]
   generalize refsL true s.map (c.ddt,c.dirty,true)=Y at *
   obtain⟨yl,yd,yo⟩:=Y
   simp -implicitDefEqProofs [obOf,kcs,hli,k1,e0,e1,qay x hx8,qay s hs8,hb,hrow,cs_take S2 hS28,cs_map24 S2 hS28,hS2m]
   have ho:∀ x∈(c.sets.drop i).map CS.row,∀ y∈x,oneA y=true:=fun x hx y hy=>by
    obtain⟨e,_,rfl⟩:=List.mem_map.1 hx
    exact cs_ones e y hy
   have et:List.take (c.sets.length-i) ((c.sets.drop i).map CS.row)=(c.sets.drop i).map CS.row:=List.take_of_length_le (by simp)
   rw[dr_to,et,tk_to,show i+1+(c.sets.length-i)=c.sets.length+1 by omega]
   refine⟨by omega,⟨by omega,by omega,ho⟩,by omega,qay S2 hS28,⟨by omega,by omega,cs_ones S2⟩,⟨by omega,by omega,ho⟩,?_⟩
   have e6:List.take (i+1) ((c.sets.take i).map CS.row++[S2.row])++(c.sets.drop i).map CS.row=c2.sets.map CS.row:=by
    rw[hrows,List.take_of_length_le (by simp;omega)];simp
   rw[e6]
   refine qac [(1000,.whole 41)] (by kernel_rfl) r1 (by simp;exact mtL_cl _ (clL_pts _)) (by simp) (by simp[kcs];exact qad rfl (qbk _)) (by simp) (by simp) ?_
   rintro r L' ⟨rfl,rfl⟩
   refine⟨[],⟨by simp,by simp,by simp,by simp,by simp⟩,?_⟩
   simp only[qae]
   simp -implicitDefEqProofs [hl2]
   rfl
end Go.Av.F

end
section
namespace Go.Av.F
open Go Go.Av Go.Proofs Go.Proofs.Tryz
theorem nmP_at (l:List CS) (n:List UInt8):nmP l n=atP (l.map csB) n:=by
 unfold nmP atP
 induction l with
 | nil=>rfl
 | cons x r ih =>
  simp only[List.map_cons,List.takeWhile_cons]
  have:(csB x).name=x.name:=rfl
  rw[this]
  split
  ·simpa using ih
  ·rfl
theorem cs_map_row (s:CS) (h8:s.map.length=8) (m:List PT):List.take 3 s.row++(m.flatMap PT.row++List.drop 27 s.row)=CS.row ⟨s.name,s.kind,s.frm,m,s.home,s.dirty⟩:=by
 have hl:(s.map.flatMap PT.row).length=24:=by
  rw[List.length_flatMap];exact sum3 h8
 have e:s.row=([.str s.name,.int .i64 s.kind,.str s.frm]++s.map.flatMap PT.row)++(s.home.row++[.bool s.dirty]):=by simp[CS.row]
 have h27:([.str s.name,.int .i64 s.kind,.str s.frm]++s.map.flatMap PT.row:List AV).length=27:=by simp only[List.length_append,hl];rfl
 have e2:List.drop 27 s.row=s.home.row++[.bool s.dirty]:=by rw[e,List.drop_left' h27]
 rw[e2]
 simp[CS.row]
def zSet (name:List UInt8) (kind:Int) (frm:List UInt8) (m:List PT):CS:=⟨name,kind,frm,m,zPT,false⟩
def setsD (c:CO) (op:BO):CO×Bool :=
 if op.kind=1 then newB' c (zSet op.a 1 [] (List.replicate 8 zPT)) else
 match c.sets[nmP c.sets op.a]? with
 | none=>(c,false)
 | some s =>
  if op.kind=2 then
   let x:=refsL false s.map (c.ddt,c.dirty,true)
   (⟨c.txg,c.sets.take (nmP c.sets op.a)++c.sets.drop (nmP c.sets op.a+1),x.1,c.parts,x.2.1,c.safe,c.logn⟩,x.2.2)
  else if op.kind=4 then newB' c (zSet op.b 2 op.a s.map) else
  if op.kind=5 then newB' c (zSet op.b 1 op.a s.map) else
  match c.sets[nmP c.sets op.b]? with
  | none=>(c,false)
  | some t =>
   let x:=refsL true t.map (c.ddt,c.dirty,true)
   let y:=refsL false s.map (x.1,x.2.1,true)
   (⟨c.txg,c.sets.set (nmP c.sets op.a) ⟨s.name,s.kind,s.frm,t.map,s.home,true⟩,y.1,c.parts,y.2.1,c.safe,c.logn⟩,x.2.2 && y.2.2)
theorem sSetsO (c:CO) (hm:CoM c) (h8:∀ s∈c.sets,s.map.length=8) (op:BO) (hk:op.kind=1∨op.kind=2∨op.kind=4∨op.kind=5∨op.kind=6)
  (ha:op.kind≠1→nmP c.sets op.a<c.sets.length) (hb:op.kind=6→nmP c.sets op.b<c.sets.length) :
  ACall prog 55 [coreS c 1000,.agg op.row] [(1000,kcs c.sets)] (fun r L'=>∃ id,(id=1000∨id=22∨id=53∨id=71∨id=84)∧r=.tup [coreS (setsD c op).1 id,.bool (setsD c op).2]∧L'=[(id,kcs (setsD c op).1.sets)]):=by
 obtain⟨R,hR⟩:∃ R,setsD c op=R:=⟨_,rfl⟩
 rw[hR]
 unfold setsD at hR
 have h1:=hm.sets
 refine acx func55 [(3,[zJ 0 [2] [],zJ 2 [] [2],zJ 3 [3] [2],zJ 1 [] [3],zI 4,zI 5,zI 6,zI 7,zI 8,zI 9]),(7,[zI 1,zJ 2 [2] [],zJ 3 [] [2],zJ 4 [1000] [],zJ 6 [] [2,1000],zJ 7 [2] [2,1000],zJ 8 [] [2,1000],zJ 9 [] [2,1000],zJ 10 [1000] [2,1000],zJ 0 [] [2,1000],zJ 5 [] [2,1000],zI 11,zI 12,zI 13]),(13,[zJ 0 [2] [],zJ 2 [] [2],zJ 3 [3] [2],zJ 1 [] [3],zI 4,zI 5,zI 6,zI 7,zI 8,zI 9]),(14,[zJ 0 [2] [],zJ 1 [] [2],zJ 2 [2] [2],zJ 3 [] [2],zJ 4 [1000] [2],zJ 5 [] [2],zJ 6 [1000] [2],⟨7,[1000],[],[11],[]⟩,zI 8,zI 9,zI 10,zJ 11 [] [2,1000],zI 12,zI 13]),(16,[zI 0,zJ 1 [13] [],zJ 2 [] [13],zJ 3 [] [13],zJ 4 [13] [13],zJ 5 [] [13],zJ 6 [1000] [13],zJ 7 [] [13],zJ 8 [1000] [13],zJ 9 [1000] [],zI 10,zI 11])] ntmps55 rfl rfl rfl ?_
 by_cases q1:op.kind=1
 ·rw[if_pos q1]at hR
  have r1:=sNewO c hm h8 (zSet op.a 1 [] (List.replicate 8 zPT)) (by simp[zSet])
  rw[hR]at r1
  simp only[coreS,zSet,CS.row,List.replicate,List.flatMap_cons,List.flatMap_nil,zPT,PT.row,List.cons_append,List.nil_append]at r1
  simp -implicitDefEqProofs [coreS,BO.row,q1]
  refine qac [(1000,.whole 1000)] (by kernel_rfl) r1 (by simp) (by simp) (by simp[kcs];exact qad rfl (qbk _)) (by simp) (by simp) ?_
  rintro r L' ⟨rfl,rfl⟩
  refine⟨[(41,22)],⟨by simp,by simp,by simp,by simp,by simp⟩,?_⟩
  simp only[qae]
  simp -implicitDefEqProofs
 ·rw[if_neg q1]at hR
  obtain⟨s,e1⟩:∃ s,c.sets[nmP c.sets op.a]?=some s:=⟨_,List.getElem?_eq_getElem (ha q1)⟩
  have e0:=(List.getElem?_eq_some_iff.1 e1).2
  have hkl:=ha q1
  have hs8:=h8 s (List.mem_of_getElem? e1)
  rw[e1]at hR
  simp only at hR
  have cn:=sNamesA c (by omega) h8
  have ca:=cv_of (atC (c.sets.map csB) op.a (by simp;omega)) (hca:=by simp[bk])
  have cb:=cv_of (atC (c.sets.map csB) op.b (by simp;omega)) (hca:=by simp[bk])
  rw[← nmP_at]at ca cb
  simp only[CO.row]at cn
  simp only[bk]at ca cb
  simp -implicitDefEqProofs [coreS,BO.row,q1]
  refine callA_vw [] (by kernel_rfl) cn (by simp[vwOk,mtA,kcs,qap,cs_cl]) (by simp) trivial (by simp) (by simp) ?_
  rintro r L' ⟨rfl,rfl⟩
  refine⟨by simp,by simp[bkOb,noL_bs],[(900,27)],⟨by simp,by simp,by simp,by simp,by simp⟩,?_⟩
  simp only[qae]
  simp -implicitDefEqProofs
  have htk:List.take c.sets.length (List.map BS.row (c.sets.map csB))=List.map BS.row (c.sets.map csB):=List.take_of_length_le (by simp)
  have htk2:List.take c.sets.length (List.map (BS.row ∘ csB) c.sets)=List.map (BS.row ∘ csB) c.sets:=List.take_of_length_le (by simp)
  have hmp:=cs_map24 s hs8
  refine ca.view (by simp[vwOk,mtA,bkOb,htk2]) ?_
  have hk':op.kind=2∨op.kind=4∨op.kind=5∨op.kind=6:=hk.resolve_left q1
  rcases hk' with q | q | q | q
  ·rw[if_pos q]at hR
   generalize nmP c.sets op.a=k at *
   have e3:=i64w ((k:Int)+1) (by omega) (by omega)
   obtain⟨c2,hc2⟩:∃ c2:CO,c2=⟨c.txg,c.sets.take k++c.sets.drop (k+1),c.ddt,c.parts,c.dirty,c.safe,c.logn⟩:=⟨_,rfl⟩
   have hl2:c2.sets.length=c.sets.length-1:=by rw[hc2];simp;omega
   have hrows:c2.sets.map CS.row=(c.sets.take k).map CS.row++(c.sets.drop (k+1)).map CS.row:=by rw[hc2];simp
   have r1:=sRefsC c2 s.map hs8 false (by rw[hc2];simp only;have:=hm.ddt;omega) (by omega)
   have hcd:c2.ddt=c.ddt∧c2.dirty=c.dirty∧c2.txg=c.txg∧c2.parts=c.parts∧c2.safe=c.safe∧c2.logn=c.logn:=by rw[hc2];exact⟨rfl,rfl,rfl,rfl,rfl,rfl⟩
   have hs2:c.sets.take k++c.sets.drop (k+1)=c2.sets:=by rw[hc2]
   simp only[coreS,hcd,hl2]at r1
   rw[hs2]at hR
   generalize refsL false s.map (c.ddt,c.dirty,true)=Y at *
   obtain⟨yl,yd,yo⟩:=Y
   simp only at hR
   subst hR
   have ho:∀ (m:List CS),∀ x∈m.map CS.row,∀ y∈x,oneA y=true:=fun m x hx y hy=>by
    obtain⟨e,_,rfl⟩:=List.mem_map.1 hx
    exact cs_ones e y hy
   simp -implicitDefEqProofs [kcs,hkl,e0,e1,qay s hs8,cs_take s hs8,q,hmp,e3]
   rw[dr_to,tk_to,show min k c.sets.length=k by omega,show k+(c.sets.length-(k+1))=c.sets.length-1 by omega]
   refine⟨cs_ones s,by omega,⟨by omega,by omega⟩,⟨by omega,by omega,ho _⟩,⟨by omega,by omega,ho _⟩,?_⟩
   have e6:List.take k ((c.sets.take k).map CS.row)++(c.sets.drop (k+1)).map CS.row=c2.sets.map CS.row:=by
    rw[hrows,List.take_of_length_le (by simp;omega)]
   try rw[e6]
   refine qac [(1000,.whole 53)] (by kernel_rfl) r1 (by simp;exact mtL_cl _ (clL_pts _)) (by simp) (by simp[kcs];exact qad rfl (qbk _)) (by simp) (by simp) ?_
   rintro r L' ⟨rfl,rfl⟩
   refine⟨[],⟨by simp,by simp,by simp,by simp,by simp⟩,?_⟩
   simp only[qae]
   simp -implicitDefEqProofs [hl2]
   rfl
  ·rw[if_neg (by omega),if_pos q]at hR
   have r1:=sNewO c hm h8 (zSet op.b 2 op.a s.map) (by simp[zSet,hs8])
   rw[hR]at r1
   have hzr:(zSet op.b 2 op.a s.map).row=.str op.b::.int .i64 2::.str op.a::(s.map.flatMap PT.row++[.int .i64 0,.int .i64 0,.int .i64 0,.bool false]):=by simp[zSet,CS.row,zPT,PT.row]
   rw[hzr]at r1
   simp only[coreS]at r1
   simp -implicitDefEqProofs [kcs,hkl,e0,e1,qay s hs8,cs_take s hs8,q,hmp,sum3 hs8]
   refine⟨cs_ones s,?_⟩
   refine qac [(1000,.whole 1000)] (by kernel_rfl) r1 (by simp;exact mtL_cl _ (clL_app (clL_pts _) (by simp))) (by simp) (by simp[kcs];exact qad rfl (qbk _)) (by simp) (by simp) ?_
   rintro r L' ⟨rfl,rfl⟩
   refine⟨[(41,71)],⟨by simp,by simp,by simp,by simp,by simp⟩,?_⟩
   simp only[qae]
   simp -implicitDefEqProofs
   rfl
  ·rw[if_neg (by omega),if_neg (by omega),if_pos q]at hR
   have r1:=sNewO c hm h8 (zSet op.b 1 op.a s.map) (by simp[zSet,hs8])
   rw[hR]at r1
   have hzr:(zSet op.b 1 op.a s.map).row=.str op.b::.int .i64 1::.str op.a::(s.map.flatMap PT.row++[.int .i64 0,.int .i64 0,.int .i64 0,.bool false]):=by simp[zSet,CS.row,zPT,PT.row]
   rw[hzr]at r1
   simp only[coreS]at r1
   simp -implicitDefEqProofs [kcs,hkl,e0,e1,qay s hs8,cs_take s hs8,q,hmp,sum3 hs8]
   refine⟨cs_ones s,?_⟩
   refine qac [(1000,.whole 1000)] (by kernel_rfl) r1 (by simp;exact mtL_cl _ (clL_app (clL_pts _) (by simp))) (by simp) (by simp[kcs];exact qad rfl (qbk _)) (by simp) (by simp) ?_
   rintro r L' ⟨rfl,rfl⟩
   refine⟨[(41,84)],⟨by simp,by simp,by simp,by simp,by simp⟩,?_⟩
   simp only[qae]
   simp -implicitDefEqProofs
   rfl
  ·rw[if_neg (by omega),if_neg (by omega),if_neg (by omega)]at hR
   have q2:=hb q
   obtain⟨t,e2⟩:∃ t,c.sets[nmP c.sets op.b]?=some t:=⟨_,List.getElem?_eq_getElem q2⟩
   have e3:=(List.getElem?_eq_some_iff.1 e2).2
   have ht8:=h8 t (List.mem_of_getElem? e2)
   rw[e2]at hR
   simp only at hR
   have hmq:=cs_map24 t ht8
   have r1:=sRefsC c t.map ht8 true (by have:=hm.ddt;omega) (by omega)
   have hY0:(refsL true t.map (c.ddt,c.dirty,true)).1.length≤c.ddt.length+8:=by
    have:=refsL_len true t.map (c.ddt,c.dirty,true)
    simp only[ht8]at this
    exact this
   generalize refsL true t.map (c.ddt,c.dirty,true)=Y at *
   obtain⟨yl,yd,yo⟩:=Y
   simp only at hR r1 hY0
   obtain⟨c2,hc2⟩:∃ c2:CO,c2=⟨c.txg,c.sets,yl,c.parts,yd,c.safe,c.logn⟩:=⟨_,rfl⟩
   have r2:=sRefsC c2 s.map hs8 false (by rw[hc2];simp only;have:=hm.ddt;omega) (by rw[hc2];simp only;omega)
   have hcd:c2.ddt=yl∧c2.dirty=yd∧c2.txg=c.txg∧c2.parts=c.parts∧c2.safe=c.safe∧c2.logn=c.logn∧c2.sets=c.sets:=by rw[hc2];exact⟨rfl,rfl,rfl,rfl,rfl,rfl,rfl⟩
   simp only[coreS,hcd]at r1 r2
   clear hcd hc2
   generalize refsL false s.map (yl,yd,true)=Z at *
   obtain⟨zl,zd,zo⟩:=Z
   simp only at hR r2
   subst hR
   simp -implicitDefEqProofs [kcs,hkl,e0,e1,qay s hs8,cs_take s hs8,q,hmp]
   refine⟨cs_ones s,?_⟩
   refine callA_vw [] (by kernel_rfl) cn (by simp[vwOk,mtA,kcs,qap,cs_cl]) (by simp) trivial (by simp) (by simp) ?_
   rintro r L' ⟨rfl,rfl⟩
   refine⟨by simp,by simp[bkOb,noL_bs],[(900,89)],⟨by simp,by simp,by simp,by simp,by simp⟩,?_⟩
   simp only[qae]
   simp -implicitDefEqProofs
   refine cb.view (by simp[vwOk,mtA,bkOb,htk2]) ?_
   generalize nmP c.sets op.a=k at *
   generalize nmP c.sets op.b=j at *
   simp -implicitDefEqProofs [kcs,hkl,q2,e0,e1,e2,e3,qay s hs8,qay t ht8,cs_take s hs8,cs_take t ht8,q,hmp,hmq]
   refine qac [(1000,.whole 1000)] (by kernel_rfl) r1 (by simp;exact mtL_cl _ (clL_pts _)) (by simp) (by simp[kcs];exact qad rfl (qbk _)) (by simp) (by simp) ?_
   rintro r L' ⟨rfl,rfl⟩
   refine⟨[],⟨by simp,by simp,by simp,by simp,by simp⟩,?_⟩
   simp only[qae]
   simp -implicitDefEqProofs [hmp,qay s hs8,cs_take s hs8]
   refine qac [(1000,.whole 1000)] (by kernel_rfl) r2 (by simp;exact mtL_cl _ (clL_pts _)) (by simp) (by simp[kcs];exact qad rfl (qbk _)) (by simp) (by simp) ?_
   rintro r L' ⟨rfl,rfl⟩
   refine⟨[],⟨by simp,by simp,by simp,by simp,by simp⟩,?_⟩
   simp only[qae]
   simp -implicitDefEqProofs [kcs,hkl,q2,e0,e1,e2,e3,qay s hs8,qay t ht8,cs_take s hs8,cs_take t ht8,q,hmp,hmq]
   have hsum:=sum3 ht8
   rw[hsum]
   have hrow:=cs_map_row s hs8 t.map
   have hr2:=cs_dirt ⟨s.name,s.kind,s.frm,t.map,s.home,s.dirty⟩ ht8
   simp only[Nat.reduceAdd,hrow,hr2]
   refine⟨trivial,fun _=>⟨trivial,fun _=>?_⟩,fun h=>⟨trivial,fun h2=>?_⟩⟩
   all_goals simp_all
end Go.Av.F

end
section
namespace Go.Av.F
open Go Go.Av Go.Proofs Go.Proofs.Tryz
def dnB (c:CO) (op:BO):Int:=(doB (c.sets.map csB) op).2
theorem atB_lt {bs:List BS} {n:List UInt8} (h:atB bs n=true):atP bs n<bs.length:=by
 obtain⟨u,hu,_⟩:=atB_some h
 exact(List.getElem?_eq_some_iff.1 hu).1
theorem dnB_done {c:CO} {op:BO} (h:dnB c op=0):(op.kind=1∨op.kind=2∨op.kind=3∨op.kind=4∨op.kind=5∨op.kind=6)∧(op.kind≠1→nmP c.sets op.a<c.sets.length) ∧
  (op.kind=6→nmP c.sets op.b<c.sets.length)∧(op.kind=3→0≤op.i∧op.i<8∧op.text.length≤24):=by
 unfold dnB doB at h
 rw[nmP_at,nmP_at,← List.length_map (f:=csB)]
 by_cases h1:op.kind=1
 ·exact⟨.inl h1,by omega,by omega,by omega⟩
 rw[if_neg h1]at h
 by_cases h2:op.kind<1∨6<op.kind
 ·rw[if_pos h2]at h;simp at h
 rw[if_neg h2]at h
 cases h3:atB (c.sets.map csB) op.a with
 | false=>rw[if_pos h3]at h;simp at h
 | true =>
  rw[if_neg (by simp[h3])]at h
  have h4:=atB_lt h3
  obtain⟨t,ht,_⟩:=atB_some h3
  rw[ht]at h
  simp only at h
  refine⟨by omega,fun _=>h4,fun h6=>?_,fun h6=>?_⟩
  ·rw[if_neg (by omega),if_neg (by omega),if_pos h6]at h
   unfold backB at h
   rw[ht]at h
   simp only at h
   cases h5:atB (c.sets.map csB) op.b with
   | false=>rw[if_pos h5]at h;simp at h
   | true=>exact atB_lt h5
  ·rw[if_neg (by omega),if_pos h6]at h
   unfold putB at h
   rw[ht]at h
   simp only at h
   split at h
   ·simp at h
   ·omega
def putL (d:DK) (c:CO) (op:BO) (w:DK×CO×Int):DK×CO×Int :=
 if w.2.2≠0 then (d,c,w.2.2) else
 if (qcc w.1 w.2.1 ⟨op.kind,op.a,[],op.i,op.text⟩).2.2=false then (d,c,7) else
 ((qcc w.1 w.2.1 ⟨op.kind,op.a,[],op.i,op.text⟩).1,(qcc w.1 w.2.1 ⟨op.kind,op.a,[],op.i,op.text⟩).2.1,0)
def putZ (d:DK) (c:CO) (op:BO) (z:DK×CO×Int):DK×CO×Int :=
 if z.2.2≠0 then (d,c,z.2.2) else putL d c op (turnB z.1 z.2.1 (nmP c.sets op.a) op.i.toNat op.text)
def callB (d:DK) (c:CO) (op:BO):DK×CO×Int :=
 if dnB c op≠0 then (d,c,dnB c op) else
 if op.kind≠3 then (if (setsD c op).2=false then (d,c,7) else qak d (setsD c op).1) else
 putZ d c op (if c.logn=8 then qak d c else (d,c,0))
theorem refsT (more:Bool) (m:List PT) (h8:m.length=8) (l:List DE) (b:Bool) (o:Bool):(refsL more m (l,b,o)).1.length≤l.length+8:=by
 have:=refsL_len more m (l,b,o)
 rw[h8]at this
 exact this
theorem newB_T {c:CO} (h:CoT c) (hm:CoM c) (s:CS) (hs8:s.map.length=8) (hn:s.name.length≤1048576∧s.frm.length≤1048576):CoT (newB' c s).1:=by
 have h1:=hm.sets
 have h2:=hm.ddt
 have h3:=refsT true s.map hs8 c.ddt c.dirty true
 refine⟨?_,by simp only[newB'];omega,h.parts,h.safe,fun x hx=>?_,fun x hx=>?_⟩
 ·have:=nmP_le c.sets s.name
  simp[newB'];omega
 all_goals
  simp only[newB',List.mem_append,List.mem_cons]at hx
  rcases hx with hx | rfl | hx
 ·exact h.m8 x (List.mem_of_mem_take hx)
 ·exact hs8
 ·exact h.m8 x (List.mem_of_mem_drop hx)
 ·exact h.nm x (List.mem_of_mem_take hx)
 ·exact hn
 ·exact h.nm x (List.mem_of_mem_drop hx)
theorem setsD_T {c:CO} (h:CoT c) (hm:CoM c) (op:BO) (ha:op.a.length≤1048576) (hb:op.b.length≤1048576):CoT (setsD c op).1:=by
 have h1:=hm.sets
 have h2:=hm.ddt
 unfold setsD
 split
 ·exact newB_T h hm _ rfl ⟨ha,by simp[zSet]⟩
 split
 ·exact h
 rename_i s hs
 have hs8:=h.m8 s (List.mem_of_getElem? hs)
 have hsn:=h.nm s (List.mem_of_getElem? hs)
 have h3:=refsT false s.map hs8 c.ddt c.dirty true
 split
 ·refine⟨by simp;omega,by simp only;omega,h.parts,h.safe,fun x hx=>?_,fun x hx=>?_⟩
  all_goals
   simp only[List.mem_append]at hx
   rcases hx with hx | hx
  ·exact h.m8 x (List.mem_of_mem_take hx)
  ·exact h.m8 x (List.mem_of_mem_drop hx)
  ·exact h.nm x (List.mem_of_mem_take hx)
  ·exact h.nm x (List.mem_of_mem_drop hx)
 split
 ·exact newB_T h hm _ hs8 ⟨hb,ha⟩
 split
 ·exact newB_T h hm _ hs8 ⟨hb,ha⟩
 split
 ·exact h
 rename_i t ht
 have ht8:=h.m8 t (List.mem_of_getElem? ht)
 have h4:=refsT true t.map ht8 c.ddt c.dirty true
 have h5:=refsT false s.map hs8 (refsL true t.map (c.ddt,c.dirty,true)).1 (refsL true t.map (c.ddt,c.dirty,true)).2.1 true
 refine⟨by simp;omega,by simp only;omega,h.parts,h.safe,fun x hx=>?_,fun x hx=>?_⟩
 all_goals
  simp only at hx
  rcases List.mem_or_eq_of_mem_set hx with hx | rfl
 ·exact h.m8 x hx
 ·exact ht8
 ·exact h.nm x hx
 ·exact hsn
theorem reach_len (c:CO) (root:Int):(reachB c root).length≤1+c.ddt.length+c.sets.length+c.parts.length:=by
 have h1:∀ (bs l:List Int),(addsB l bs).length≤l.length+bs.length:=fun bs=>by
  induction bs with
  | nil=>intro l;simp[addsB]
  | cons a r ih =>
   intro l
   rw[addsB_cons]
   have:=ih (addB l a)
   have h2:(addB l a).length≤l.length+1:=by
    unfold addB
    split
    ·omega
    ·simp;omega
   simp only[List.length_cons];omega
 have h2:(addB [] root).length≤1:=by
  unfold addB
  split <;> simp
 unfold reachB
 have a1:=h1 (c.ddt.map DE.ea) (addB [] root)
 have a2:=h1 (c.sets.map fun s=>s.home.pa) (addsB (addB [] root) (c.ddt.map DE.ea))
 have a3:=h1 (c.parts.map PT.pa) (addsB (addsB (addB [] root) (c.ddt.map DE.ea)) (c.sets.map fun s=>s.home.pa))
 simp only[List.length_map]at a1 a2 a3
 omega
theorem qca {d:DK} {c:CO} (h:CoT c) (hz:(qak d c).2.2=0):dOkB d=true∧qah c=true∧dOkB (qak d c).1=true∧(qak d c).1.s0.length=d.s0.length∧CoT (qak d c).2.1∧CoM (qak d c).2.1∧(qak d c).2.1.txg=c.txg+1∧c.txg<1000000 ∧
  (qak d c).2.1.logn=0∧(qak d c).2.1.sets.length=c.sets.length:=by
 unfold qak at hz ⊢
 by_cases h1:dOkB d=false∨qah c=false∨d.s0.length≤13
 ·rw[if_pos h1]at hz;simp at hz
 rw[if_neg h1]at hz ⊢
 by_cases h2:mayDoB d c=false
 ·rw[if_pos h2]at hz;simp at hz
 rw[if_neg h2]at hz ⊢
 have hd:dOkB d=true:=by cases hx:dOkB d <;> simp_all
 have hc:qah c=true:=by cases hx:qah c <;> simp_all
 obtain⟨hm,k⟩:=coreOk_M hc
 have ht:c.txg<1000000:=by
  cases hx:mayDoB d c with
  | false=>exact absurd hx h2
  | true =>
   simp only[mayDoB,Bool.and_eq_true,decide_eq_true_eq]at hx
   exact hx.1
 have b1:=blocks_ok hd c
 obtain⟨b2,b3⟩:=blocks_T hd h hm
 by_cases h3:(doneB d c).2.2≠0
 ·rw[if_pos h3]at hz;exact absurd hz h3
 rw[if_neg h3]at hz ⊢
 have f1:=flush_ok b1.1
 have f2:=qcg f1.1 (1+(c.txg+1) % 4) (uberText (c.txg+1) (qag d c).2.2)
 have f3:=flush_ok f2.1
 have hsl:(qag d c).2.1.sets.length=c.sets.length:=setsB_len _ _ _
 have hr:=reach_len (qag d c).2.1 (qag d c).2.2.pa
 have e1:=b3.sets
 have e2:=b3.ddt
 have e3:=b3.parts
 unfold doneB at hz ⊢
 by_cases q1:(qag d c).1.ok=false
 ·rw[if_pos q1]at hz;simp at hz
 rw[if_neg q1]at hz ⊢
 by_cases q2:(ringB (qbm (qag d c).1.d) (c.txg+1) (qag d c).2.2).2=false
 ·rw[if_pos q2]at hz;simp at hz
 rw[if_neg q2]
 unfold ringB
 exact⟨hd,hc,f3.1,by rw[f3.2.1,f2.2,f1.2.1,b1.2],⟨b2.sets,b2.ddt,b2.parts,by simp only;omega,b2.m8,b2.nm⟩,⟨b3.sets,b3.ddt,b3.parts⟩,rfl,ht,rfl,hsl⟩
theorem turnB_ok {d:DK} (hd:dOkB d=true) (c:CO) (k i:Nat) (text:List UInt8):dOkB (turnB d c k i text).1=true∧(turnB d c k i text).1.s0.length=d.s0.length∧(turnB d c k i text).2.1.logn=c.logn:=by
 have hb:dOkB (blockB d c text).1=true∧(blockB d c text).1.s0.length=d.s0.length:=by
  unfold blockB
  split
  ·exact⟨hd,rfl⟩
  split
  ·exact⟨hd,rfl⟩
  split
  ·exact⟨hd,rfl⟩
  ·exact qcg hd _ _
 have hg:∀ (x:DK) (s:CS) (old now:PT),dOkB x=true∧x.s0.length=d.s0.length→dOkB (turnG d x c k i s old now).1=true∧(turnG d x c k i s old now).1.s0.length=d.s0.length∧(turnG d x c k i s old now).2.1.logn=c.logn:=fun x s old now hx=>by
  unfold turnG
  simp only
  split
  ·exact⟨hd,rfl,rfl⟩
  ·exact⟨hx.1,hx.2,rfl⟩
 unfold turnB
 split
 ·exact⟨hd,rfl,rfl⟩
 simp only
 split
 ·exact hg _ _ _ _ ⟨hd,rfl⟩
 split
 ·exact⟨hd,rfl,rfl⟩
 split
 ·exact⟨hd,rfl,rfl⟩
 split
 ·exact⟨hb.1,hb.2,rfl⟩
 ·exact hg _ _ _ _ hb
end Go.Av.F

end
section
namespace Go.Av.F
open Go Go.Av Go.Proofs Go.Proofs.Tryz
structure PO where
 d:DK
 c:CO
 up:Bool
deriving DecidableEq,Inhabited
def PO.row (p:PO):List AV:=p.d.row++(p.c.row++[.bool p.up])
def caOb (d:DK) (c:CO) (op:BO):List (Nat×Ob):=[(3,⟨3,[d.row]⟩),(4,⟨7,[c.row]⟩),(5,⟨5,[op.row]⟩),(6,⟨3,[[.nils,.nils,.nils]]⟩),(7,⟨7,[[.int .i64 0,.nils,.nils,.nils,.bool false,.nils,.int .i64 0]]⟩)]
def caS (d:DK) (c:CO) (op:BO) (n:Int):S :=
 ⟨mkT [(3,.ptr 3 0 0),(4,.ptr 4 0 0),(5,.ptr 5 0 0),(6,.ptr 6 0 0),(7,.ptr 7 0 0),(8,.int .i64 0),(10,.int .i64 n)],hpOf (caOb d c op),Us.of [3,4,5,6,7]⟩
def caS2 (d:DK) (c:CO) (op:BO) (x:CO) (xo:Bool):S :=
 ⟨mkT [(3,.ptr 3 0 0),(4,.ptr 4 0 0),(5,.ptr 5 0 0),(6,.ptr 6 0 0),(7,.ptr 7 0 0),(8,.int .i64 0),(11,.ptr 11 0 0),(12,.bool xo)],hpOf (caOb d c op++[(11,⟨7,[x.row]⟩)]),Us.of [3,4,5,6,7,11]⟩
def caS3 (d:DK) (c:CO) (op:BO) (z:DK×CO×Int):S :=
 ⟨mkT [(3,.ptr 3 0 0),(4,.ptr 4 0 0),(5,.ptr 5 0 0),(6,.ptr 6 0 0),(7,.ptr 7 0 0),(8,.int .i64 0),(13,.ptr 13 0 0),(14,.ptr 14 0 0)],hpOf (caOb d c op++[(13,⟨3,[z.1.row]⟩),(14,⟨7,[z.2.1.row]⟩)]),Us.of [3,4,5,6,7,13,14]⟩
end Go.Av.F

end
section
namespace Go.Av.F
open Go Go.Av
open Go.Proofs Go.Proofs.Tryz
attribute [-simp] getU hdS canon qab i64w
attribute [local simp] tt3 tt4 tt9 tt5 tt24 tt48 tt23 tt43 tt41 tt40
end Go.Av.F

end
section
namespace Go.Av.F
open Go Go.Av Go.Proofs Go.Proofs.Tryz
theorem parts_cnt:∀ (k:Nat) (l:List DE),l.length≤k→(partsN k l).length=(l.length+5) / 6:=fun k=>by
 induction k with
 | zero =>
  intro l hl
  have:l=[]:=List.eq_nil_of_length_eq_zero (by omega)
  subst this
  rfl
 | succ k ih =>
  intro l hl
  simp only[partsN]
  by_cases h0:l=[]
  ·subst h0;rfl
  ·rw[if_neg h0,List.length_cons,ih (l.drop 6) (by simp;have:=List.length_pos_iff.2 h0;omega)]
   have:=List.length_pos_iff.2 h0
   simp only[List.length_drop]
   omega
end Go.Av.F

end
section
namespace Go.Av.F
open Go Go.Av Go.Proofs Go.Proofs.Tryz Go.RowKit
def loB (x:Int):Bool:=decide (x<13)
def hiL (l:List Int):List Int:=l.filter fun x=>!loB x
def dsT (p:Int):List Int→List Int
 | []=>[]
 | x::r=>if x=p then dsT x r else x::dsT x r
def dsL:List Int→List Int
 | []=>[]
 | x::r=>x::dsT x r
def srt (l:List Int):List Int:=l.mergeSort fun x y=>decide (x≤y)
theorem up_ext:∀ {a b:List Int},a.Pairwise (· < ·)→b.Pairwise (· < ·)→(∀ x,x∈a↔x∈b)→a=b
 | [],[],_,_,_=>rfl
 | [],y::b,_,_,h=>absurd ((h y).2 (by simp)) (by simp)
 | x::a,[],_,_,h=>absurd ((h x).1 (by simp)) (by simp)
 | x::a,y::b,h1,h2,h=>by
  rw[List.pairwise_cons]at h1 h2
  have hxy:x=y:=by
   rcases List.mem_cons.1 ((h x).1 (by simp))with e | e
   ·exact e
   ·rcases List.mem_cons.1 ((h y).2 (by simp))with e2 | e2
    ·exact e2.symm
    ·have:=h1.1 y e2;have:=h2.1 x e;omega
  subst hxy
  rw[up_ext h1.2 h2.2 fun z=>⟨fun hz=>?_,fun hz=>?_⟩]
  ·rcases List.mem_cons.1 ((h z).1 (List.mem_cons_of_mem _ hz))with e | e
   ·have:=h1.1 z hz;omega
   ·exact e
  ·rcases List.mem_cons.1 ((h z).2 (List.mem_cons_of_mem _ hz))with e | e
   ·have:=h2.1 z hz;omega
   ·exact e
theorem plP_split:∀ (l:List Int) (a:Int),(∀ x∈l.take (plP l a),x<a)∧(l.Pairwise (· < ·)→¬ a∈l→∀ x∈l.drop (plP l a),a<x)
 | [],a=>by simp[plP]
 | y::r,a=>by
  obtain⟨h1,h2⟩:=plP_split r a
  by_cases h:y<a
  ·have e:plP (y::r) a=plP r a+1:=by simp[plP,h]
   rw[e]
   refine⟨fun x hx=>?_,fun hp hn=>?_⟩
   ·simp only[List.take_succ_cons,List.mem_cons]at hx
    rcases hx with rfl | hx
    ·exact h
    ·exact h1 x hx
   ·rw[List.pairwise_cons]at hp
    simpa using h2 hp.2 (fun hm=>hn (List.mem_cons_of_mem _ hm))
  ·have e:plP (y::r) a=0:=by simp[plP,h]
   rw[e]
   refine⟨by simp,fun hp hn x hx=>?_⟩
   rw[List.pairwise_cons]at hp
   have hy:y≠a:=fun e=>hn (by simp[e])
   simp only[List.drop_zero,List.mem_cons]at hx
   rcases hx with rfl | hx
   ·omega
   ·have:=hp.1 x hx;omega
theorem addB_up {l:List Int} (h:l.Pairwise (· < ·)) (a:Int):(addB l a).Pairwise (· < ·)∧∀ x,x∈addB l a↔x∈l∨(x=a∧13≤a):=by
 unfold addB
 split
 ·rename_i hc
  refine⟨h,fun x=>⟨.inl,fun hx=>?_⟩⟩
  rcases hx with hx | ⟨rfl,h13⟩
  ·exact hx
  ·rcases hc with hc | hc
   ·omega
   ·simpa using hc
 ·rename_i hc
  have hn:¬ a∈l:=fun hm=>hc (.inr (by simpa using hm))
  have h13:13≤a:=by
   have:¬ a<13:=fun h=>hc (.inl h)
   omega
  obtain⟨h1,h2⟩:=plP_split l a
  have h2:=h2 h hn
  have hs:=List.take_append_drop (plP l a) l
  have hp:(l.take (plP l a)++l.drop (plP l a)).Pairwise (· < ·):=by rw[hs];exact h
  rw[List.pairwise_append]at hp
  refine⟨?_,fun x=>?_⟩
  ·rw[List.pairwise_append,List.pairwise_cons]
   refine⟨hp.1,⟨h2,hp.2.1⟩,fun x hx y hy=>?_⟩
   rcases List.mem_cons.1 hy with rfl | hy
   ·exact h1 x hx
   ·exact hp.2.2 x hx y hy
  ·have:x∈l↔x∈l.take (plP l a)∨x∈l.drop (plP l a):=by rw[← List.mem_append,hs]
   rw[this]
   simp only[List.mem_append,List.mem_cons]
   constructor
   ·rintro(h | rfl | h)
    ·exact .inl (.inl h)
    ·exact .inr ⟨rfl,h13⟩
    ·exact .inl (.inr h)
   ·rintro((h | h) | ⟨rfl,_⟩)
    ·exact .inl h
    ·exact .inr (.inr h)
    ·exact .inr (.inl rfl)
theorem addsB_up:∀ (bs:List Int) {l:List Int},l.Pairwise (· < ·)→(addsB l bs).Pairwise (· < ·)∧∀ x,x∈addsB l bs↔x∈l∨(x∈bs∧13≤x)
 | [],l,h=>⟨h,fun x=>by simp[addsB]⟩
 | a::r,l,h=>by
  obtain⟨h1,h2⟩:=addB_up h a
  obtain⟨h3,h4⟩:=addsB_up r h1
  rw[addsB_cons]
  refine⟨h3,fun x=>?_⟩
  rw[h4,h2]
  simp only[List.mem_cons]
  constructor
  ·rintro((h | ⟨rfl,h⟩) | ⟨h,h'⟩)
   ·exact .inl h
   ·exact .inr ⟨.inl rfl,h⟩
   ·exact .inr ⟨.inr h,h'⟩
  ·rintro(h | ⟨rfl | h,h'⟩)
   ·exact .inl (.inl h)
   ·exact .inl (.inr ⟨rfl,h'⟩)
   ·exact .inr ⟨h,h'⟩
theorem dsT_up:∀ (l:List Int) (p:Int),(p::l).Pairwise (·≤·)→(p::dsT p l).Pairwise (· < ·)∧∀ x,x∈p::dsT p l↔x∈p::l
 | [],p,_=>by simp[dsT]
 | a::r,p,h=>by
  rw[List.pairwise_cons]at h
  obtain⟨h1,h2⟩:=dsT_up r a h.2
  simp only[dsT]
  split
  ·rename_i e
   subst e
   refine⟨h1,fun x=>?_⟩
   rw[h2];simp
  ·rename_i e
   have hpa:=h.1 a (by simp)
   refine⟨?_,fun x=>?_⟩
   ·rw[List.pairwise_cons]
    refine⟨fun y hy=>?_,h1⟩
    have hy2:=(h2 y).1 hy
    rcases List.mem_cons.1 hy2 with rfl | hy2
    ·omega
    ·rw[List.pairwise_cons]at h
     have:=h.2.1 y hy2
     omega
   ·have:=h2 x
    simp only[List.mem_cons]at this ⊢
    rw[this]
theorem dsL_up {l:List Int} (h:l.Pairwise (·≤·)):(dsL l).Pairwise (· < ·)∧∀ x,x∈dsL l↔x∈l:=by
 cases l with
 | nil=>simp[dsL]
 | cons a r=>exact dsT_up r a h
def rawL (c:CO) (root:Int):List Int:=root::(c.ddt.map DE.ea++(c.sets.map (fun s=>s.home.pa)++c.parts.map PT.pa))
theorem reach_law (c:CO) (root:Int):dsL (srt (hiL (rawL c root)))=reachB c root:=by
 have hs:(srt (hiL (rawL c root))).Pairwise (·≤·):=by
  have:=List.pairwise_mergeSort (le:=fun x y:Int=>decide (x≤y)) (fun a b c h1 h2=>by simp at *;omega) (fun a b=>by simp;omega) (hiL (rawL c root))
  simpa [srt]using this
 obtain⟨h1,h2⟩:=dsL_up hs
 have h0:([]:List Int).Pairwise (· < ·):=.nil
 obtain⟨a1,a2⟩:=addB_up h0 root
 obtain⟨b1,b2⟩:=addsB_up (c.ddt.map DE.ea) a1
 obtain⟨c1,c2⟩:=addsB_up (c.sets.map fun s=>s.home.pa) b1
 obtain⟨d1,d2⟩:=addsB_up (c.parts.map PT.pa) c1
 refine up_ext h1 d1 fun x=>?_
 rw[h2]
 show _↔x∈addsB (addsB (addsB (addB [] root) (c.ddt.map DE.ea)) (c.sets.map fun s=>s.home.pa)) (c.parts.map PT.pa)
 rw[d2,c2,b2,a2]
 have:x∈srt (hiL (rawL c root))↔x∈rawL c root∧13≤x:=by
  rw[srt,List.mem_mergeSort,hiL,List.mem_filter]
  simp[loB]
 rw[this]
 simp only[rawL,List.mem_cons,List.mem_append,List.not_mem_nil,false_or]
 grind
end Go.Av.F

end
section
namespace Go.Av.F
open Go Go.Av Go.Proofs Go.Proofs.Tryz
theorem freeR_mem {c:CO}:∀ (k:Nat) (q:Int),∀ a∈freeR c k q,q≤a∧a<q+k
 | 0,q,a,h=>by simp[freeR]at h
 | k+1,q,a,h=>by
  simp only[freeR,List.mem_append]at h
  rcases h with h | h
  ·split at h
   ·simp only[List.mem_cons,List.not_mem_nil,or_false]at h
    omega
   ·simp at h
  ·have:=freeR_mem k (q+1) a h
   omega
theorem freeB_mem {c:CO} {n:Int} {a:Int} (h:a∈freeB c n):13≤a∧a<n:=by
 have:=freeR_mem _ _ a h
 omega
theorem blk_real {a b:Int} (t:List UInt8) (ha:13≤a∧a<120) (hb:0≤b∧b≤1000000):qbb (blkToB a t b)=true∧(blkToB a t b).pa=a:=by
 have hs:=smB_lt t
 have h1:ptOkB ⟨a,smB t,b⟩=true:=by
  unfold ptOkB
  rw[if_neg (by simp only;omega)]
  simp only[Bool.and_eq_true,decide_eq_true_eq]
  omega
 unfold blkToB
 rw[if_neg (by simp[h1];omega)]
 refine⟨?_,rfl⟩
 simp only[qbb,h1,Bool.true_and]
 simp;omega
theorem blk_ok (a:Int) (t:List UInt8) (b:Int):ptOkB (blkToB a t b)=true:=by
 unfold blkToB
 split
 ·rfl
 ·rename_i h
  cases e:ptOkB ⟨a,smB t,b⟩with
  | true=>rfl
  | false=>exact absurd (.inr e) h
theorem setsB_same (txg:Int):∀ (l:List CS) (r:RS),(setsB txg l r).1.map CS.map=l.map CS.map∧(setsB txg l r).1.map csB=l.map csB∧(l.all csOkB=true→(setsB txg l r).1.all csOkB=true)
 | [],r=>⟨rfl,rfl,fun _=>rfl⟩
 | s::q,r=>by
  simp only[setsB]
  split
  ·obtain⟨h1,h2,h3⟩:=setsB_same txg q (rsPut txg r (mapText s.map)).2
   refine⟨by simp[h1],by simp[h2];rfl,fun h=>?_⟩
   simp only[List.all_cons,Bool.and_eq_true]at h ⊢
   refine⟨?_,h3 h.2⟩
   have h4:=h.1
   simp only[csOkB,Bool.and_eq_true]at h4 ⊢
   exact⟨⟨h4.1.1,blk_ok _ _ _⟩,h4.2⟩
  ·obtain⟨h1,h2,h3⟩:=setsB_same txg q r
   refine⟨by simp[h1],by simp[h2],fun h=>?_⟩
   simp only[List.all_cons,Bool.and_eq_true]at h ⊢
   exact⟨h.1,h3 h.2⟩
theorem setsB_fr (txg:Int):∀ (l:List CS) (r:RS),(setsB txg l r).2.fr=r.fr.drop (dirtN l)
 | [],r=>by simp[setsB,dirtN]
 | s::q,r=>by
  simp only[setsB,dirtN,List.countP_cons]
  split
  ·rename_i h
   rw[setsB_fr txg q]
   simp only[rsPut,dirtN]
   rw[← List.drop_one,List.drop_drop,Nat.add_comm]
  ·rename_i h
   rw[setsB_fr txg q]
   simp only[dirtN]
   rfl
theorem ptsB_real (txg:Int) (hb:0≤txg∧txg≤1000000):∀ (l:List (List UInt8)) (r:RS),(∀ a∈r.fr,13≤a∧a<120)→l.length≤r.fr.length→(ptsB txg l r).1.all qbb=true∧(ptsB txg l r).1.length=l.length
 | [],r,_,_=>⟨rfl,rfl⟩
 | t::q,r,hr,hl=>by
  simp only[ptsB]
  obtain⟨a,fr,hf⟩:∃ a fr,r.fr=a::fr:=by
   cases h:r.fr with
   | nil=>rw[h]at hl;simp at hl
   | cons a fr=>exact⟨a,fr,rfl⟩
  have ih:=ptsB_real txg hb q (rsPut txg r t).2 (by simp only[rsPut,hf,List.tail_cons];exact fun x hx=>hr x (by rw[hf];simp[hx])) (by simp only[rsPut,hf,List.tail_cons];rw[hf]at hl;simpa using hl)
  refine⟨?_,by simp[ih.2]⟩
  rw[List.all_cons,ih.1,Bool.and_true]
  simp only[rsPut,hf,List.headD_cons]
  exact(blk_real t (hr a (by rw[hf];simp)) hb).1
theorem blkC_ok {d:DK} {c:CO} (hd:dOkB d=true) (h:CoT c) (hc:qah c=true) (hf:needsB c≤(freeB c d.s0.length).length) (ht:c.txg<1000000):CoT (qag d c).2.1∧qah (qag d c).2.1=true∧13≤(qag d c).2.2.pa:=by
 obtain⟨hm,k1,k2,k3,k4,k5,k6,k7⟩:=coreOk_M hc
 obtain⟨g1,g2,g3,g4,_⟩:=dOk_len hd
 have hfm:∀ a∈freeB c d.s0.length,13≤a∧a<120:=fun a ha=>by
  have:=freeB_mem ha;omega
 have hS:=setsB_same (c.txg+1) c.sets ⟨d,freeB c d.s0.length,true⟩
 have hSf:=setsB_fr (c.txg+1) c.sets ⟨d,freeB c d.s0.length,true⟩
 have hSl:=setsB_len (c.txg+1) c.sets ⟨d,freeB c d.s0.length,true⟩
 have hSm:=setsB_mem (c.txg+1) c.sets ⟨d,freeB c d.s0.length,true⟩
 have hP8:=parts_cnt c.ddt.length c.ddt (Nat.le_refl _)
 unfold qag
 generalize setsB (c.txg+1) c.sets ⟨d,freeB c d.s0.length,true⟩=X at *
 obtain⟨cur,rs⟩:=X
 simp only at hS hSf hSl hSm ⊢
 have hrf:∀ a∈rs.fr,13≤a∧a<120:=fun a ha=>hfm a (by rw[hSf]at ha;exact List.mem_of_mem_drop ha)
 have hrl:rs.fr.length=(freeB c d.s0.length).length-dirtN c.sets:=by rw[hSf];simp
 obtain⟨Y,hY⟩:∃ Y,(if c.dirty=true then ptsB (c.txg+1) (partsT c.ddt) rs else (c.parts,rs))=Y:=⟨_,rfl⟩
 have hpr:∀ p∈c.parts,qbb p=true:=by
  simp only[qah,Bool.and_eq_true,List.all_eq_true]at hc
  exact hc.1.1.1.2
 unfold needsB at hf
 have hYp:Y.1.all qbb=true∧Y.1.length≤8:=by
  subst hY
  split
  ·rename_i hdt
   rw[if_pos hdt]at hf
   have:=ptsB_real (c.txg+1) (by omega) (partsT c.ddt) rs hrf (by omega)
   refine⟨this.1,?_⟩
   rw[this.2]
   unfold partsT
   omega
  ·exact⟨List.all_eq_true.2 hpr,k3⟩
 have hYf:∃ a∈Y.2.fr.head?,13≤a∧a<120:=by
  have key:∀ (l:List (List UInt8)) (r:RS),(ptsB (c.txg+1) l r).2.fr=r.fr.drop l.length:=fun l=>by
   induction l with
   | nil=>intro r;simp[ptsB]
   | cons t q ih =>
    intro r
    simp only[ptsB,ih,rsPut,List.length_cons]
    rw[← List.drop_one,List.drop_drop,Nat.add_comm]
  have:∃ k,Y.2.fr=rs.fr.drop k∧k<rs.fr.length:=by
   subst hY
   split
   ·rename_i hdt
    rw[if_pos hdt]at hf
    exact⟨_,key _ _,by omega⟩
   ·rename_i hdt
    rw[if_neg hdt]at hf
    exact⟨0,by simp,by omega⟩
  obtain⟨k,e,hk⟩:=this
  refine⟨rs.fr[k],by rw[e];simp[List.head?_drop,hk],hrf _ (List.getElem_mem hk)⟩
 rw[hY]
 obtain⟨ps,rs'⟩:=Y
 simp only at hYp hYf ⊢
 have hb:=qah c
 refine⟨⟨by simp only;have:=h.sets;omega,h.ddt,by simp only;omega,h.safe,fun s hs=>?_,fun s hs=>?_⟩,?_,?_⟩
 ·obtain⟨t,ht,e1,e2,e3,_⟩:=hSm s hs
  rw[e1];exact h.m8 t ht
 ·obtain⟨t,ht,e1,e2,e3,_⟩:=hSm s hs
  rw[e2,e3];exact h.nm t ht
 ·have e1:qan cur=qan c.sets:=by
   unfold qan
   rw[List.flatMap_def,List.flatMap_def,hS.1]
  simp only[qah,Bool.and_eq_true]at hc ⊢
  obtain⟨⟨⟨⟨⟨⟨⟨⟨⟨⟨⟨q1,q2⟩,q3⟩,q4⟩,q5⟩,q6⟩,q7⟩,q8⟩,q9⟩,q10⟩,q11⟩,q12⟩:=hc
  refine⟨⟨⟨⟨⟨⟨⟨⟨⟨⟨⟨q1,q2⟩,q3⟩,by simpa using hYp.2⟩,q5⟩,q6⟩,q7⟩,hS.2.2 q8⟩,hYp.1⟩,by rw[hS.2.1];exact q10⟩,?_⟩,?_⟩
  ·simp only[cntOkB,refsB,nnS,e1]at q11 ⊢
   exact q11
  ·simp only[sumOkB]at q12 ⊢
   rw[e1];exact q12
 ·obtain⟨a,ha,h1⟩:=hYf
  simp only[Option.mem_def]at ha
  have e:rs'.fr.headD 0=a:=by
   cases hx:rs'.fr with
   | nil=>rw[hx]at ha;simp at ha
   | cons y r=>rw[hx]at ha;simpa using ha
  simp only[rsPut,e]
  rw[(blk_real _ h1 (by omega)).2]
  exact h1.1
end Go.Av.F

end
section
namespace Go.Av.F
open Go Go.Av Go.Proofs Go.Proofs.Tryz
theorem noL_pts:∀ (m:List PT),noL (m.flatMap PT.row)=true
 | []=>rfl
 | p::r=>by
  rw[List.flatMap_cons,noL_append,noL_pts r]
  rfl
theorem noL_cs (s:CS):noL s.row=true:=by
 have e:s.row=[.str s.name,.int .i64 s.kind,.str s.frm]++(s.map.flatMap PT.row++(s.home.row++[.bool s.dirty])):=by simp[CS.row]
 rw[e,noL_append,noL_append,noL_pts]
 rfl
end Go.Av.F

end
section
namespace Go.Av.F
open Go Go.Av Go.Proofs Go.Proofs.Tryz
theorem ddtR_of {q:Int}:∀ {l:List DE},(∀ e∈l,q<e.ea∧deOkB e=true)→l.Pairwise (fun a b=>a.ea<b.ea)→ddtR q l=true
 | [],_,_=>rfl
 | x::r,h,hp=>by
  rw[List.pairwise_cons]at hp
  have hx:=h x (by simp)
  simp only[ddtR,Bool.and_eq_true,decide_eq_true_eq]
  exact⟨⟨hx.2,hx.1⟩,ddtR_of (fun e he=>⟨hp.1 e he,(h e (by simp[he])).2⟩) hp.2⟩
theorem ddtR_pw {q:Int}:∀ {l:List DE},ddtR q l=true→l.Pairwise (fun a b=>a.ea<b.ea)
 | [],_=>.nil
 | x::r,h=>by
  simp only[ddtR,Bool.and_eq_true,decide_eq_true_eq]at h
  rw[List.pairwise_cons]
  exact⟨fun e he=>((qch h.2).1 e he).1,ddtR_pw h.2⟩
theorem ddt_split {l:List DE} (h:qaf l=true) (a:Int):(∀ e∈l.take (ddP l a),e.ea<a)∧(∀ e∈l.drop (ddP l a),a≤e.ea):=by
 simp only[qaf,Bool.and_eq_true,decide_eq_true_eq]at h
 obtain⟨h1,h2⟩:=qch h.2
 have hu:UpC (fun e:DE=>e.ea-a) l:=fun i j x y hij hx hy hc=>by
  have:=h2 i j x y hij hx hy
  first | omega | (simp only at hc ⊢;omega)
 refine⟨fun e he=>?_,fun e he=>?_⟩
 ·obtain⟨i,hi⟩:=List.mem_iff_getElem?.1 he
  rw[List.getElem?_take]at hi
  split at hi
  ·rename_i hlt
   rcases Int.lt_or_le (e.ea-a) 0 with h3 | h3
   ·omega
   ·have:=bsK_le (c:=fun e:DE=>e.ea-a) hi (by simpa using h3)
    unfold ddP at hlt
    omega
  ·cases hi
 ·obtain⟨i,hi⟩:=List.mem_iff_getElem?.1 he
  rw[List.getElem?_drop]at hi
  rcases Int.lt_or_le (e.ea-a) 0 with h3 | h3
  ·have:=bsK_lt hu hi h3
   unfold ddP at this
   omega
  ·omega
theorem ddT_mem {l:List DE} (h:qaf l=true) {a:Int} (hT:ddT l a=false):∀ e∈l,e.ea≠a:=by
 intro e he hea
 have hs:=ddt_split h a
 rw[← List.take_append_drop (ddP l a) l]at he
 rcases List.mem_append.1 he with he | he
 ·have:=hs.1 e he;omega
 ·unfold ddT bsT at hT
  obtain⟨i,hi⟩:=List.mem_iff_getElem?.1 he
  rw[List.getElem?_drop]at hi
  simp only[qaf,Bool.and_eq_true,decide_eq_true_eq]at h
  obtain⟨h1,h2⟩:=qch h.2
  cases hx:l[bsK (fun e=>e.ea-a) l]? with
  | none =>
   have:=List.getElem?_eq_none_iff.1 hx
   have:=(List.getElem?_eq_some_iff.1 hi).1
   unfold ddP at *
   omega
  | some y =>
   rw[hx]at hT
   have hy:y.ea≠a:=by
    intro e
    simp[e]at hT
   have hm:y∈l.drop (ddP l a):=List.mem_iff_getElem?.2 ⟨0,by rw[List.getElem?_drop];exact hx⟩
   have h3:=hs.2 y hm
   by_cases hi0:i=0
   ·subst hi0
    rw[Nat.add_zero]at hi
    unfold ddP at hi
    rw[hx]at hi
    injection hi with hi
    exact hy (hi ▸ hea)
   ·have:=h2 (ddP l a) (ddP l a+i) y e (by omega) hx hi
    omega
theorem ddSet_ok {l:List DE} (h:qaf l=true) {k:Nat} {e e':DE} (he:l[k]?=some e) (h1:e'.ea=e.ea) (h2:deOkB e'=true):qaf (l.set k e')=true:=by
 simp only[qaf,Bool.and_eq_true,decide_eq_true_eq,List.length_set]at h ⊢
 refine⟨h.1,?_⟩
 have hp:=ddtR_pw h.2
 obtain⟨g1,_⟩:=qch h.2
 refine ddtR_of (fun x hx=>?_) ?_
 ·rcases List.mem_or_eq_of_mem_set hx with hx | rfl
  ·exact g1 x hx
  ·exact⟨by rw[h1];exact(g1 e (List.mem_of_getElem? he)).1,h2⟩
 ·have hm:(l.set k e').map DE.ea=l.map DE.ea:=by
   rw[List.map_set,h1]
   apply List.ext_getElem?
   intro i
   rw[List.getElem?_set]
   split
   ·rename_i hki
    subst hki
    split
    ·simp[he]
    ·rename_i hlt
     exact absurd (by simpa using (List.getElem?_eq_some_iff.1 he).1) hlt
   ·rfl
  have e1:(l.map DE.ea).Pairwise (· < ·):=List.pairwise_map.2 hp
  rw[← hm]at e1
  exact List.pairwise_map.1 e1
theorem ddAdd_ok {l:List DE} (h:qaf l=true) {s a:Int} (ho:(qbz l s a).2=true):qaf (qbz l s a).1=true:=by
 have h':=h
 simp only[qaf,Bool.and_eq_true,decide_eq_true_eq]at h'
 have hp:=ddtR_pw h'.2
 obtain⟨g1,_⟩:=qch h'.2
 unfold qbz at ho ⊢
 rw[if_neg (by simp[h])]at ho ⊢
 cases hen:deOkB ⟨s,a,1⟩with
 | false=>rw[if_pos hen]at ho;cases ho
 | true =>
  rw[if_neg (by simp[hen])]at ho ⊢
  cases hT:ddT l a with
  | true =>
   rw[if_pos hT]at ho
   rw[if_pos rfl]
   cases he:l[ddP l a]? with
   | none=>rw[he]at ho;cases ho
   | some e =>
    rw[he]at ho
    simp only at ho ⊢
    by_cases hq:e.es≠s∨e.ec=1000
    ·rw[if_pos hq]at ho;cases ho
    ·rw[if_neg hq]
     refine ddSet_ok h he rfl ?_
     have:=(g1 e (List.mem_of_getElem? he)).2
     simp only[deOkB,Bool.and_eq_true,decide_eq_true_eq]at this ⊢
     omega
  | false =>
   rw[if_neg (by simp[hT])]at ho
   rw[if_neg (by simp)]
   by_cases hl:l.length=48
   ·rw[if_pos hl]at ho;cases ho
   ·rw[if_neg hl]
    have hs:=ddt_split h a
    have hne:=ddT_mem h hT
    have hsp:=List.take_append_drop (ddP l a) l
    have hp2:(l.take (ddP l a)++l.drop (ddP l a)).Pairwise (fun a b=>a.ea<b.ea):=by rw[hsp];exact hp
    rw[List.pairwise_append]at hp2
    have hk:=ddP_le l a
    simp only[qaf,Bool.and_eq_true,decide_eq_true_eq]
    refine⟨by simp;omega,ddtR_of (fun x hx=>?_) ?_⟩
    ·rcases List.mem_append.1 hx with hx | hx
     ·exact g1 x (List.mem_of_mem_take hx)
     ·rcases List.mem_cons.1 hx with rfl | hx
      ·simp only[deOkB,Bool.and_eq_true,decide_eq_true_eq]at hen
       exact⟨by simp only;omega,by simp[deOkB];omega⟩
      ·exact g1 x (List.mem_of_mem_drop hx)
    ·rw[List.pairwise_append,List.pairwise_cons]
     refine⟨hp2.1,⟨fun y hy=>?_,hp2.2.1⟩,fun x hx y hy=>?_⟩
     ·have:=hs.2 y hy
      have:=hne y (List.mem_of_mem_drop hy)
      simp only;omega
     ·rcases List.mem_cons.1 hy with rfl | hy
      ·exact hs.1 x hx
      ·exact hp2.2.2 x hx y hy
theorem ddDrop_ok {l:List DE} (h:qaf l=true) {a:Int} (ho:(qbg l a).2=true):qaf (qbg l a).1=true:=by
 have h':=h
 simp only[qaf,Bool.and_eq_true,decide_eq_true_eq]at h'
 have hp:=ddtR_pw h'.2
 obtain⟨g1,_⟩:=qch h'.2
 unfold qbg at ho ⊢
 rw[if_neg (by simp[h])]at ho ⊢
 cases hT:ddT l a with
 | false=>rw[if_pos hT]at ho;cases ho
 | true =>
  rw[if_neg (by simp[hT])]at ho
  rw[if_neg (by simp)]
  cases he:l[ddP l a]? with
  | none=>rw[he]at ho;cases ho
  | some e =>
   simp only
   by_cases hq:e.ec=1
   ·rw[if_pos hq]
    have hsub:(l.take (ddP l a)++l.drop (ddP l a+1)).Sublist l:=by
     conv=>rhs;rw[← List.take_append_drop (ddP l a) l]
     refine List.Sublist.append (List.Sublist.refl _) ?_
     rw[← List.drop_drop]
     exact List.drop_sublist _ _
    have hl:=hsub.length_le
    simp only[qaf,Bool.and_eq_true,decide_eq_true_eq]
    exact⟨by omega,ddtR_of (fun x hx=>g1 x (hsub.subset hx)) (hp.sublist hsub)⟩
   ·rw[if_neg hq]
    refine ddSet_ok h he rfl ?_
    have:=(g1 e (List.mem_of_getElem? he)).2
    simp only[deOkB,Bool.and_eq_true,decide_eq_true_eq]at this ⊢
    omega
theorem refB_ok {l:List DE} (h:qaf l=true) {more:Bool} {p:PT} (ho:(refB more l p).2=true):qaf (refB more l p).1=true:=by
 unfold refB at ho ⊢
 split
 ·rename_i e;rw[if_pos e]at ho;exact ddAdd_ok h ho
 ·rename_i e;rw[if_neg e]at ho;exact ddDrop_ok h ho
end Go.Av.F

end
