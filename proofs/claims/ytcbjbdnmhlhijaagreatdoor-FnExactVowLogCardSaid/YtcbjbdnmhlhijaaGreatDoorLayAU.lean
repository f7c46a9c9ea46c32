/- Lemmas for the proof, no statement of the seat; no conditions. -/
import Derived.Test.YtcbjbdnmhlhijaaGreatDoorLayAT
set_option linter.unusedSimpArgs false
set_option linter.unusedVariables false
set_option linter.unnecessarySimpa false
set_option maxRecDepth 100000
section
namespace Go.Av.F
open Go Go.Av Go.Proofs Go.Proofs.Tryz
def triE (w:List UInt8):Option DE:=(triV w).map fun x=>⟨x.1,x.2.1,x.2.2⟩
def triL:List (List UInt8)→Option (List DE)
 | []=>some []
 | w::r=>match triE w,triL r with
  | some e,some l=>some (e::l)
  | _,_=>none
def ddRd (t:List UInt8):List DE×Bool :=
 if 1000<t.length then ([],false) else if t=[] then ([],true) else
 match triL (cutR 32 t [])with
 | some l=>if qbc l=true then (l,true) else ([],false)
 | none=>([],false)
def spcE (w:List UInt8):Option DE :=
 match cutR 46 w []with
 | [a,b,c]=>some ⟨(snumB a).1,(snumB b).1,(snumB c).1⟩
 | _=>none
def spcL:List (List UInt8)→Option (List DE)
 | []=>some []
 | w::r=>match spcE w,spcL r with
  | some e,some l=>some (e::l)
  | _,_=>none
theorem deText_join {e:DE} (h:deOkB e=true):deText e=Lib.join [Lib.itoa e.es,Lib.itoa e.ea,Lib.itoa e.ec] [46]:=by
 have hb:=deOk_b h
 rw[dec_itoa _ (by omega),dec_itoa _ (by omega),dec_itoa _ (by omega),qau,qau,Lib.join_one]
 rfl
theorem triE_text {w:List UInt8} {e:DE} (h:triE w=some e) (hd:deOkB e=true):deText e=w∧spcE w=some e:=by
 unfold triE at h
 cases hv:triV w with
 | none=>rw[hv]at h;cases h
 | some x =>
  obtain⟨a,b,c⟩:=x
  rw[hv]at h
  simp only[Option.map_some,Option.some.injEq]at h
  subst h
  refine⟨by rw[deText_join hd];exact triV_text hv,?_⟩
  unfold triV at hv
  split at hv
  ·rename_i x y z hc
   split at hv
   ·rename_i hq
    simp only[Option.some.injEq,Prod.mk.injEq]at hv
    obtain⟨rfl,rfl,rfl⟩:=hv
    have hb:=deOk_b hd
    simp only at hb
    have n1:=(can_snum x).1 ⟨hq.1,by omega⟩
    have n2:=(can_snum y).1 ⟨hq.2.1,by omega⟩
    have n3:=(can_snum z).1 ⟨hq.2.2,by omega⟩
    unfold spcE
    rw[hc]
    simp only[can_val n1,can_val n2,can_val n3]
   ·cases hv
  ·cases hv
theorem triE_of {e:DE} (h:deOkB e=true):triE (deText e)=some e:=by
 have hb:=deOk_b h
 rw[deText_join h]
 unfold triE
 rw[triV_of e.es e.ea e.ec ⟨by omega,by omega⟩ ⟨by omega,by omega⟩ ⟨by omega,by omega⟩]
 rfl
theorem triL_of:∀ {l:List DE},(∀ e∈l,deOkB e=true)→triL (l.map deText)=some l
 | [],_=>rfl
 | e::r,h=>by
  rw[List.map_cons,triL,triE_of (h e (by simp)),triL_of fun x hx=>h x (by simp[hx])]
theorem triL_text:∀ {ws:List (List UInt8)} {l:List DE},triL ws=some l→(∀ e∈l,deOkB e=true)→l.map deText=ws∧spcL ws=some l
 | [],l,h,_=>by
  simp only[triL,Option.some.injEq]at h
  subst h
  exact⟨rfl,rfl⟩
 | w::r,l,h,hd=>by
  rw[triL]at h
  split at h
  ·rename_i e q h1 h2
   simp only[Option.some.injEq]at h
   subst h
   obtain⟨a1,a2⟩:=triE_text h1 (hd e (by simp))
   obtain⟨b1,b2⟩:=triL_text h2 fun x hx=>hd x (by simp[hx])
   refine⟨by simp[a1,b1],?_⟩
   rw[spcL,a2,b2]
  ·cases h
theorem itoa_no (n:Int):∀ x∈Lib.itoa n,x≠(32:UInt8):=itoa_ne n 32 (by decide) (by decide)
theorem join3_no (a b c:Int):∀ x∈Lib.join [Lib.itoa a,Lib.itoa b,Lib.itoa c] [46],x≠(32:UInt8):=by
 intro x hx
 rw[qau,qau,Lib.join_one]at hx
 simp only[List.mem_append,List.mem_cons]at hx
 rcases hx with hx | rfl | hx | rfl | hx
 ·exact itoa_no _ x hx
 ·decide
 ·exact itoa_no _ x hx
 ·decide
 ·exact itoa_no _ x hx
theorem deText_no {e:DE} (h:deOkB e=true):∀ x∈deText e,x≠(32:UInt8):=by
 rw[deText_join h]
 exact join3_no _ _ _
theorem ddt_nil:ddText []=[]:=by
 unfold ddText
 split <;> rfl
theorem ddRd_spec {t:List UInt8} (h1:¬ 1000<t.length) (h2:t≠[]) :
  ddRd t=match spcL (cutR 32 t [])with
   | some l=>if qbc l=true∧ddText l=t then (l,true) else ([],false)
   | none=>([],false):=by
 have hj:=cutR_join 32 t []
 simp only[List.nil_append]at hj
 unfold ddRd
 rw[if_neg h1,if_neg h2]
 by_cases hg:∃ l,triL (cutR 32 t [])=some l∧qbc l=true
 ·obtain⟨l,g1,g2⟩:=hg
  obtain⟨a1,a2⟩:=triL_text g1 (ddt_de g2)
  have e:ddText l=t:=by
   unfold ddText
   rw[if_pos g2,(desText_join l).2,a1,hj]
  rw[g1,a2]
  simp[g2,e]
 ·have hL:(match triL (cutR 32 t [])with
   | some l=>if qbc l=true then (l,true) else ([],false)
   | none=>(([]:List DE),false))=([],false):=by
   split
   ·rename_i l hl
    rw[if_neg fun e=>hg ⟨l,hl,e⟩]
   ·rfl
  rw[hL]
  split
  ·rename_i l hl
   rw[if_neg]
   rintro⟨q1,q2⟩
   have hne:l≠[]:=by
    rintro rfl
    rw[ddt_nil]at q2
    exact h2 q2.symm
   unfold ddText at q2
   rw[if_pos q1,(desText_join l).2]at q2
   have hc:=join_cut 32 (l.map deText) (by simpa using hne) (by
    intro w hw
    obtain⟨e,he,rfl⟩:=List.mem_map.1 hw
    exact deText_no (ddt_de q1 e he))
   rw[q2]at hc
   exact hg ⟨l,by rw[hc];exact triL_of (ddt_de q1),q1⟩
  ·rfl
theorem thB_tri (w:List UInt8):(triV w=none→(thB w).2=false)∧∀ a b c,triV w=some (a,b,c)→thB w=((a,b,c),true):=by
 by_cases h3:(cutR 46 w []).length=3
 ·obtain⟨x,y,z,hc⟩:=three_ex h3
  rw[triV_some hc,thB_3 hc]
  by_cases hq:canB x=true∧canB y=true∧canB z=true
  ·rw[if_pos hq]
   have hk:atoiK x=true∧atoiK y=true∧atoiK z=true:=by
    obtain⟨q1,q2,q3⟩:=hq
    simp only[canB,Bool.and_eq_true]at q1 q2 q3
    exact⟨q1.1,q2.1,q3.1⟩
   refine⟨(fun e=>by cases e),fun a b c e=>?_⟩
   simp only[Option.some.injEq,Prod.mk.injEq]at e
   obtain⟨rfl,rfl,rfl⟩:=e
   rw[if_pos hk]
   simp[hq]
  ·rw[if_neg hq]
   refine⟨fun _=>?_,fun a b c e=>by cases e⟩
   split
   ·simpa using hq
   ·rfl
 ·rw[triV_none h3,thB_n h3]
  exact⟨fun _=>rfl,fun a b c e=>by cases e⟩
def ddF (acc:List DE) (ws:List (List UInt8)):List DE×Bool :=
 match triL ws with
 | some l=>if qbc (acc++l)=true then (acc++l,true) else ([],false)
 | none=>([],false)
theorem ddF_cons (acc:List DE) (w:List UInt8) (r:List (List UInt8)):ddF acc (w::r)=match triE w with
  | some e=>ddF (acc++[e]) r
  | none=>([],false):=by
 unfold ddF
 rw[triL]
 cases triE w with
 | none=>rfl
 | some e =>
  cases triL r with
  | none=>rfl
  | some l=>simp
def ddQ (x:Nat) (R:List DE×Bool) (r:AV) (L':List (Nat×Ob)):Prop :=
 (R.1=[]∧r=.tup [.nils,.bool R.2]∧L'=[])∨(r=.tup [.sl x 0 R.1.length,.bool R.2]∧L'=[(x,deOb R.1)])
theorem ddQ_cv {f x:Nat} {t:List UInt8} {R:List DE×Bool} (h:ACall prog f [.str t] [] (ddQ x R)) (he:qcb prog f=true):CV prog f [.str t] (.tup [.lst 3 (R.1.map DE.row),.bool R.2]):=by
 refine CV.of_frz h ?_ (he:=he) (hcv:=by simp[DE.row])
 rintro r L' (⟨h1,rfl,rfl⟩ | ⟨rfl,rfl⟩)
 ·refine⟨by simp,by simp,by simp,?_⟩
  rw[h1]
  simp only[frzAll,List.map_nil]
  exact impA_tu (.cons (impA_nils 3) (.cons (qbw _) .nil))
 ·refine⟨by simp,by simp,fun x hx=>by simp only[List.mem_singleton]at hx;subst hx;exact clR_de _,?_⟩
  simp[frzAll,deOb,qbh]
theorem iDdtReadC (t:List UInt8) (hl:t.length≤1048576):CV prog 120 [.str t] (.tup [.lst 3 ((ddRd t).1.map DE.row),.bool (ddRd t).2]):=by
 refine ddQ_cv (x:=900) ?_ (by kernel_rfl)
 obtain⟨R,hR⟩:∃ R,ddRd t=R:=⟨_,rfl⟩
 rw[hR]
 unfold ddRd at hR
 refine acx func120 [] ntmps120 rfl rfl rfl ?_
 by_cases h1:1000<t.length
 ·rw[if_pos h1]at hR
  subst hR
  simp -implicitDefEqProofs [show(1000:Int)<t.length by omega,h1]
  exact⟨[],by simp,.inl ⟨rfl,rfl,rfl⟩⟩
 rw[if_neg h1]at hR
 by_cases h2:t=[]
 ·rw[if_pos h2]at hR
  subst hR
  simp -implicitDefEqProofs [h2]
  exact⟨[],by simp,.inl ⟨rfl,rfl,rfl⟩⟩
 rw[if_neg h2]at hR
 have hR':ddF [] (cutR 32 t [])=R:=by
  rw[← hR]
  unfold ddF
  simp
 have c1:=splitC t 32 hl
 have hw:=qbi 32 t []
 have hnum:=cutR_num 32 t []
 simp only[List.length_nil,Nat.zero_add]at hw
 simp -implicitDefEqProofs [show ¬ (1000:Int)<t.length by omega,h1,h2]
 refine c1.call ?_
 generalize cutR 32 t []=ws at *
 simp -implicitDefEqProofs [strR]
 refine ev_sw (sw_ph 4 3 (by simp) (by simp)) ?_
 refine ev_lo (X:=Nat×List DE) [2,3,4,17,18,19] [(4,900)] (fun x=>[(4,.sl 900 0 x.2.length),(19,.int .i64 x.1)]) (fun x=>[(900,deOb x.2)]) (fun x=>ws.length-x.1) (fun x=>x.1≤ws.length∧x.2.length=x.1∧ddF x.2 (ws.drop x.1)=R) (0,[]) ⟨by omega,rfl,hR'⟩ ?_ (he:=by simp[obOf,deOb])
 rintro⟨i,acc⟩ ⟨hi,ha,hd⟩
 simp only at hi ha hd
 cases hr:ws.drop i with
 | nil =>
  have:=dropn hr
  have hie:i=ws.length:=by omega
  subst hie
  rw[hr]at hd
  have c2:=iDdtOkC acc (by omega)
  simp only[ddF,triL,List.append_nil]at hd
  simp -implicitDefEqProofs
  refine c2.view (by simp[vwOk,mtA,deOb,qbh]) ?_
  cases hk:qbc acc with
  | false =>
   rw[if_neg (by simp[hk])]at hd
   subst hd
   simp -implicitDefEqProofs
   exact⟨[],by simp,.inl ⟨rfl,rfl,rfl⟩⟩
  | true =>
   rw[if_pos hk]at hd
   subst hd
   simp -implicitDefEqProofs
   exact⟨[(900,deOb acc)],by simp,.inr ⟨rfl,rfl⟩⟩
 | cons w r =>
  obtain⟨g1,e0,e1,g3⟩:=dropc hr
  have hwl:=hw w (List.mem_of_getElem? e1)
  have c2:=iThreeC w (by omega)
  have e2:=i64w ((i:Int)+1) (by omega) (by omega)
  obtain⟨t1,t2⟩:=thB_tri w
  rw[hr,ddF_cons]at hd
  simp -implicitDefEqProofs [g1,e0,e1,strR]
  refine c2.call ?_
  cases hv:triV w with
  | none =>
   rw[show triE w=none by unfold triE;rw[hv];rfl]at hd
   simp only at hd
   subst hd
   simp -implicitDefEqProofs [t1 hv]
   exact⟨[],by simp,.inl ⟨rfl,rfl,rfl⟩⟩
  | some x =>
   obtain⟨a,b,c⟩:=x
   rw[show triE w=some ⟨a,b,c⟩ by unfold triE;rw[hv];rfl]at hd
   simp only at hd
   rw[t2 a b c hv]
   simp -implicitDefEqProofs [deOb,DE.row]
   refine⟨by omega,nx (i+1,acc++[⟨a,b,c⟩]) [(38,900)] ⟨by simp only;omega,by simp[ha],by simp only[g3];exact hd⟩ (by simp only;omega) (h4:=?_)⟩
   simp[obOf,deOb,e2,List.take_of_length_le,DE.row]
def spF (t:List UInt8) (acc:List DE) (ws:List (List UInt8)):List DE×Bool :=
 match spcL ws with
 | some l=>if qbc (acc++l)=true∧ddText (acc++l)=t then (acc++l,true) else ([],false)
 | none=>([],false)
theorem spF_cons (t:List UInt8) (acc:List DE) (w:List UInt8) (r:List (List UInt8)):spF t acc (w::r)=match spcE w with
  | some e=>spF t (acc++[e]) r
  | none=>([],false):=by
 unfold spF
 rw[spcL]
 cases spcE w with
 | none=>rfl
 | some e =>
  cases spcL r with
  | none=>rfl
  | some l=>simp
theorem sDdtReadC (t:List UInt8) (hl:t.length≤1048576):CV prog 196 [.str t] (.tup [.lst 3 ((ddRd t).1.map DE.row),.bool (ddRd t).2]):=by
 refine ddQ_cv (x:=900) ?_ (by kernel_rfl)
 obtain⟨R,hR⟩:∃ R,ddRd t=R:=⟨_,rfl⟩
 rw[hR]
 refine acx func196 [] ntmps196 rfl rfl rfl ?_
 by_cases h1:1000<t.length
 ·unfold ddRd at hR
  rw[if_pos h1]at hR
  subst hR
  simp -implicitDefEqProofs [show(1000:Int)<t.length by omega,h1]
  exact⟨[],by simp,.inl ⟨rfl,rfl,rfl⟩⟩
 have c1:=scutC t 32 hl
 have hw:=qbi 32 t []
 have hnum:=cutR_num 32 t []
 simp only[List.length_nil,Nat.zero_add]at hw
 by_cases h2:t=[]
 ·unfold ddRd at hR
  rw[if_neg h1,if_pos h2]at hR
  subst hR
  subst h2
  have c2:=sDdtOkC [] (by simp)
  have c3:=sDdtTextC [] (by simp)
  rw[ddt_nil]at c3
  rw[show qbc []=true by decide]at c2
  simp -implicitDefEqProofs
  refine c1.call ?_
  simp -implicitDefEqProofs [cutR,strR]
  refine ev_lo (X:=Nat) [0,2,3,4,5,6] [(14,900)] (fun i=>[(4,.sl 900 0 0),(6,.int .i64 i)]) (fun i=>[(900,deOb [])]) (fun i=>0) (fun i=>i=0) 0 rfl ?_ (he:=by simp[obOf,deOb])
  rintro i rfl
  simp -implicitDefEqProofs
  refine c2.view (by simp[vwOk,mtA,deOb]) ?_
  simp -implicitDefEqProofs
  refine c3.view (by simp[vwOk,mtA,deOb]) ?_
  simp -implicitDefEqProofs
  exact⟨[(900,deOb [])],by simp,.inr ⟨rfl,rfl⟩⟩
 have hR':spF t [] (cutR 32 t [])=R:=by
  rw[← hR,ddRd_spec h1 h2]
  unfold spF
  simp
 simp -implicitDefEqProofs [show ¬ (1000:Int)<t.length by omega,h1,h2]
 refine c1.call ?_
 generalize cutR 32 t []=ws at *
 simp -implicitDefEqProofs [strR]
 refine ev_lo (X:=Nat×List DE) [0,2,3,4,5,6] [(14,900)] (fun x=>[(4,.sl 900 0 x.2.length),(6,.int .i64 x.1)]) (fun x=>[(900,deOb x.2)]) (fun x=>ws.length-x.1) (fun x=>x.1≤ws.length∧x.2.length=x.1∧spF t x.2 (ws.drop x.1)=R) (0,[]) ⟨by omega,rfl,hR'⟩ ?_ (he:=by simp[obOf,deOb])
 rintro⟨i,acc⟩ ⟨hi,ha,hd⟩
 simp only at hi ha hd
 cases hr:ws.drop i with
 | nil =>
  have:=dropn hr
  have hie:i=ws.length:=by omega
  subst hie
  rw[hr]at hd
  have c2:=sDdtOkC acc (by omega)
  have c3:=sDdtTextC acc (by omega)
  simp only[spF,spcL,List.append_nil]at hd
  simp -implicitDefEqProofs [h2]
  refine c2.view (by simp[vwOk,mtA,deOb,qbh]) ?_
  cases hk:qbc acc with
  | false =>
   rw[if_neg (by simp[hk])]at hd
   subst hd
   simp -implicitDefEqProofs
   exact⟨[],by simp,.inl ⟨rfl,rfl,rfl⟩⟩
  | true =>
   simp -implicitDefEqProofs
   refine c3.view (by simp[vwOk,mtA,deOb,qbh]) ?_
   by_cases ht:ddText acc=t
   ·rw[if_pos ⟨hk,ht⟩]at hd
    subst hd
    simp -implicitDefEqProofs [ht]
    exact⟨[(900,deOb acc)],by simp,.inr ⟨rfl,rfl⟩⟩
   ·rw[if_neg fun e=>ht e.2]at hd
    subst hd
    simp -implicitDefEqProofs [ht]
    exact⟨[],by simp,.inl ⟨rfl,rfl,rfl⟩⟩
 | cons w r =>
  obtain⟨g1,e0,e1,g3⟩:=dropc hr
  have hwl:=hw w (List.mem_of_getElem? e1)
  have c2:=scutC w 46 (by omega)
  have hw2:=qbi 46 w []
  have e2:=i64w ((i:Int)+1) (by omega) (by omega)
  have hli:(i:Int)<ws.length:=by omega
  rw[hr,spF_cons]at hd
  simp -implicitDefEqProofs [g1,e0,e1,strR,h2,hli]
  refine c2.call ?_
  by_cases h3:(cutR 46 w []).length=3
  ·obtain⟨a,b,c,hc⟩:=three_ex h3
   rw[hc]at hw2
   have la:=hw2 a (by simp)
   have lb:=hw2 b (by simp)
   have lc:=hw2 c (by simp)
   simp at la lb lc
   have n1:=snumC a (by omega)
   have n2:=snumC b (by omega)
   have n3:=snumC c (by omega)
   rw[show spcE w=some ⟨(snumB a).1,(snumB b).1,(snumB c).1⟩ by unfold spcE;rw[hc]]at hd
   simp only at hd
   simp -implicitDefEqProofs [hc,strR]
   refine n1.call ?_
   simp -implicitDefEqProofs
   refine n2.call ?_
   simp -implicitDefEqProofs
   refine n3.call ?_
   simp -implicitDefEqProofs [deOb,DE.row]
   refine⟨by omega,nx (i+1,acc++[⟨(snumB a).1,(snumB b).1,(snumB c).1⟩]) [(65,900)] ⟨by simp only;omega,by simp[ha],by simp only[g3];exact hd⟩ (by simp only;omega) (h4:=?_)⟩
   simp[obOf,deOb,e2,List.take_of_length_le,DE.row]
  ·have hn:spcE w=none:=by
    unfold spcE
    split
    ·rename_i a b c hc
     rw[hc]at h3
     simp at h3
    ·rfl
   rw[hn]at hd
   simp only at hd
   subst hd
   simp -implicitDefEqProofs [strR,h3,show ¬ ((cutR 46 w []).length:Int)=3 by omega]
   exact⟨[],by simp,.inl ⟨rfl,rfl,rfl⟩⟩
def z8:List PT:=List.replicate 8 zPT
def mpRd (t:List UInt8):List PT×Bool :=
 if 400<t.length∨(cutR 32 t []).length≠8 then (z8,false) else
 if (cutR 32 t []).all (fun w=>(ptRd w).2)=true then ((cutR 32 t []).map fun w=>(ptRd w).1,true) else (z8,false)
theorem mpRd_len (t:List UInt8):(mpRd t).1.length=8:=by
 unfold mpRd
 split
 ·rfl
 ·rename_i h
  split
  ·simp only[List.length_map]
   omega
  ·rfl
theorem mpRd_ok {t:List UInt8} (h:(mpRd t).2=true):mapText (mpRd t).1=t∧∀ p∈(mpRd t).1,ptOkB p=true:=by
 unfold mpRd at h ⊢
 split at h
 ·simp at h
 ·rename_i h1
  rw[if_neg h1]
  split at h
  ·rename_i h2
   rw[if_pos h2]
   simp only
   rw[List.all_eq_true]at h2
   have hall:∀ p∈(cutR 32 t []).map fun w=>(ptRd w).1,ptOkB p=true:=fun p hp=>by
    obtain⟨w,hw,rfl⟩:=List.mem_map.1 hp
    exact(ptRd_text (h2 w hw)).2
   refine⟨?_,hall⟩
   rw[mapText_join,if_pos (List.all_eq_true.2 hall),List.map_map]
   have e:(cutR 32 t []).map (qay ∘ fun w=>(ptRd w).1)=cutR 32 t []:=by
    conv=>rhs;rw[← List.map_id (cutR 32 t [])]
    refine List.map_congr_left fun w hw=>?_
    exact(ptRd_text (h2 w hw)).1
   rw[e,cutR_join]
   rfl
  ·simp at h
def mpS (ws:List (List UInt8)) (x:Nat×List PT):Prop:=x.1≤8∧x.2.length=8∧∀ j,j<x.1→∃ w,ws[j]?=some w∧(ptRd w).2=true∧x.2[j]?=some (ptRd w).1
theorem mpS_step {ws:List (List UInt8)} {i:Nat} {m:List PT} {w:List UInt8} (h:mpS ws (i,m)) (hi:i<8) (hw:ws[i]?=some w) (hk:(ptRd w).2=true):mpS ws (i+1,m.set i (ptRd w).1):=by
 obtain⟨h1,h2,h3⟩:=h
 simp only at h1 h2 h3
 refine⟨by simp only;omega,by simpa using h2,fun j hj=>?_⟩
 simp only at hj ⊢
 by_cases hji:j=i
 ·subst hji
  exact⟨w,hw,hk,by simp[h2,hi]⟩
 ·obtain⟨v,v1,v2,v3⟩:=h3 j (by omega)
  exact⟨v,v1,v2,by rw[List.getElem?_set_ne (Ne.symm hji)];exact v3⟩
theorem mpS_end {t:List UInt8} {m:List PT} (h1:¬ 400<t.length) (h8:(cutR 32 t []).length=8) (h:mpS (cutR 32 t []) (8,m)):mpRd t=(m,true):=by
 obtain⟨_,h2,h3⟩:=h
 simp only at h2 h3
 have hall:∀ w∈cutR 32 t [],(ptRd w).2=true:=fun w hw=>by
  obtain⟨j,hj⟩:=List.mem_iff_getElem?.1 hw
  have hl:=(List.getElem?_eq_some_iff.1 hj).1
  obtain⟨v,v1,v2,_⟩:=h3 j (by omega)
  rw[hj]at v1
  injection v1 with v1
  rw[v1]
  exact v2
 have hm:(cutR 32 t []).map (fun w=>(ptRd w).1)=m:=by
  refine List.ext_getElem? fun j=>?_
  by_cases hj:j<8
  ·obtain⟨v,v1,v2,v3⟩:=h3 j hj
   rw[List.getElem?_map,v1,v3]
   rfl
  ·rw[List.getElem?_eq_none (by simp;omega),List.getElem?_eq_none (by omega)]
 unfold mpRd
 rw[if_neg (by simp[h1,h8]),if_pos (List.all_eq_true.2 hall),hm]
theorem mpRd_bad {t:List UInt8} {w:List UInt8} (hw:w∈cutR 32 t []) (hk:(ptRd w).2=false):mpRd t=(z8,false):=by
 unfold mpRd
 split
 ·rfl
 ·rw[if_neg fun e=>by
   rw[List.all_eq_true]at e
   rw[e w hw]at hk
   cases hk]
theorem iMapReadC (t:List UInt8) (hl:t.length≤1048576):CV prog 119 [.str t] (.tup [.agg ((mpRd t).1.flatMap PT.row),.bool (mpRd t).2]):=by
 have c1:=splitC t 32 hl
 have hw:=qbi 32 t []
 simp only[List.length_nil,Nat.zero_add]at hw
 refine cvx func119 [] ntmps119 rfl rfl rfl ?_ (hcv:=by simp[clL_pts])
 simp -implicitDefEqProofs
 refine c1.call ?_
 by_cases h1:400<t.length
 ·rw[show mpRd t=(z8,false) by unfold mpRd;rw[if_pos (.inl h1)]]
  simp -implicitDefEqProofs [show(400:Int)<t.length by omega,h1,z8,zPT,PT.row]
 by_cases h8:(cutR 32 t []).length=8
 ·obtain⟨R,hR⟩:∃ R,mpRd t=R:=⟨_,rfl⟩
  have hend:=@mpS_end t
  have hbad:=@mpRd_bad t
  rw[hR]at hend hbad ⊢
  generalize cutR 32 t []=ws at *
  simp -implicitDefEqProofs [show ¬ (400:Int)<t.length by omega,h1,h8,strR]
  refine ev_lo (X:=Nat×List PT) [2,3,5,21,22,23] [(2,2),(5,5)] (fun x=>[(23,.int .i64 x.1)]) (fun x=>[(2,⟨24,[z8.flatMap PT.row]⟩),(5,⟨24,[x.2.flatMap PT.row]⟩)]) (fun x=>8-x.1) (mpS ws) (0,z8) ⟨by omega,rfl,by omega⟩ ?_ (he:=by simp[obOf,z8,zPT,PT.row])
  rintro⟨i,m⟩ hg
  have hg':=hg
  obtain⟨hi,hm,hj⟩:=hg'
  simp only at hi hm hj
  have hml:(m.flatMap PT.row).length=24:=by rw[flat3,hm]
  have hsum:(List.map (fun a:PT=>3) m).sum=24:=by
   have:=hml
   rw[List.length_flatMap]at this
   exact this
  have hmt:List.take 24 (m.flatMap PT.row)=m.flatMap PT.row:=List.take_of_length_le (by omega)
  have hzt:List.drop 24 (z8.flatMap PT.row)=[]:=List.drop_eq_nil_of_le (by decide)
  by_cases h2:i<8
  ·obtain⟨w,f1⟩:∃ w,ws[i]?=some w:=⟨_,List.getElem?_eq_getElem (by omega)⟩
   have f0:ws[i]'(by omega)=w:=(List.getElem?_eq_some_iff.1 f1).2
   have h2':(i:Int)<8:=by omega
   have hwl:=hw w (List.mem_of_getElem? f1)
   have c2:=iPtrReadC w (by omega)
   simp only[PT.row]at c2
   have e2:=i64w ((i:Int)+1) (by omega) (by omega)
   simp -implicitDefEqProofs [h2',h2,h8,f0,f1,strR,obOf]
   refine c2.call ?_
   have hstep:=mpS_step hg h2 f1
   cases hk:(ptRd w).2 with
   | false =>
    have:=hbad (List.mem_of_getElem? f1) hk
    subst this
    simp -implicitDefEqProofs [z8,zPT,PT.row]
   | true =>
    have hs:=hstep hk
    simp -implicitDefEqProofs [hml,hsum,hmt]
    refine⟨by omega,by omega,nx (i+1,m.set i (ptRd w).1) [(2,2),(5,5)] hs (by simp only;omega) (h4:=?_)⟩
    have fs:=(flat_set m i (ptRd w).1 (show i<m.length by omega)).symm
    simp only[PT.row,List.cons_append,List.nil_append]at fs
    simp[obOf,e2,fs]
  ·have hie:i=8:=by omega
   subst hie
   have:=hend h1 h8 hg
   subst this
   simp -implicitDefEqProofs [obOf,hsum,hmt,hzt]
 ·rw[show mpRd t=(z8,false) by unfold mpRd;rw[if_pos (.inr h8)]]
  simp -implicitDefEqProofs [show ¬ (400:Int)<t.length by omega,h1,strR,h8,show ¬ ((cutR 32 t []).length:Int)=8 by omega,z8,zPT,PT.row]
theorem sMapReadC (t:List UInt8) (hl:t.length≤1048576):CV prog 195 [.str t] (.tup [.agg ((mpRd t).1.flatMap PT.row),.bool (mpRd t).2]):=by
 have c1:=scutC t 32 hl
 have hw:=qbi 32 t []
 simp only[List.length_nil,Nat.zero_add]at hw
 refine cvx func195 [] ntmps195 rfl rfl rfl ?_ (hcv:=by simp[clL_pts])
 simp -implicitDefEqProofs
 refine c1.call ?_
 by_cases h1:400<t.length
 ·rw[show mpRd t=(z8,false) by unfold mpRd;rw[if_pos (.inl h1)]]
  simp -implicitDefEqProofs [show(400:Int)<t.length by omega,h1,z8,zPT,PT.row]
 by_cases h8:(cutR 32 t []).length=8
 ·obtain⟨R,hR⟩:∃ R,mpRd t=R:=⟨_,rfl⟩
  have hend:=@mpS_end t
  have hbad:=@mpRd_bad t
  have hok:=@mpRd_ok t
  rw[hR]at hend hbad hok ⊢
  generalize cutR 32 t []=ws at *
  simp -implicitDefEqProofs [show ¬ (400:Int)<t.length by omega,h1,h8,strR]
  refine ev_lo (X:=Nat×List PT) [0,2,3,4,5,6] [(2,2),(4,4)] (fun x=>[(6,.int .i64 x.1)]) (fun x=>[(2,⟨24,[z8.flatMap PT.row]⟩),(4,⟨24,[x.2.flatMap PT.row]⟩)]) (fun x=>8-x.1) (mpS ws) (0,z8) ⟨by omega,rfl,by omega⟩ ?_ (he:=by simp[obOf,z8,zPT,PT.row])
  rintro⟨i,m⟩ hg
  have hg':=hg
  obtain⟨hi,hm,hj⟩:=hg'
  simp only at hi hm hj
  have hml:(m.flatMap PT.row).length=24:=by rw[flat3,hm]
  have hsum:(List.map (fun a:PT=>3) m).sum=24:=by
   have:=hml
   rw[List.length_flatMap]at this
   exact this
  have hmt:List.take 24 (m.flatMap PT.row)=m.flatMap PT.row:=List.take_of_length_le (by omega)
  have hzt:List.drop 24 (z8.flatMap PT.row)=[]:=List.drop_eq_nil_of_le (by decide)
  by_cases h2:i<8
  ·obtain⟨w,f1⟩:∃ w,ws[i]?=some w:=⟨_,List.getElem?_eq_getElem (by omega)⟩
   have f0:ws[i]'(by omega)=w:=(List.getElem?_eq_some_iff.1 f1).2
   have h2':(i:Int)<8:=by omega
   have hwl:=hw w (List.mem_of_getElem? f1)
   have c2:=sPtrReadC w (by omega)
   simp only[PT.row]at c2
   have e2:=i64w ((i:Int)+1) (by omega) (by omega)
   simp -implicitDefEqProofs [h2',h2,h8,f0,f1,strR,obOf]
   refine c2.call ?_
   have hstep:=mpS_step hg h2 f1
   cases hk:(ptRd w).2 with
   | false =>
    have:=hbad (List.mem_of_getElem? f1) hk
    subst this
    simp -implicitDefEqProofs [z8,zPT,PT.row]
   | true =>
    have hs:=hstep hk
    simp -implicitDefEqProofs [hml,hsum,hmt]
    refine⟨by omega,by omega,nx (i+1,m.set i (ptRd w).1) [(2,2),(4,4)] hs (by simp only;omega) (h4:=?_)⟩
    have fs:=(flat_set m i (ptRd w).1 (show i<m.length by omega)).symm
    simp only[PT.row,List.cons_append,List.nil_append]at fs
    simp[obOf,e2,fs]
  ·have hie:i=8:=by omega
   subst hie
   have:=hend h1 h8 hg
   subst this
   have ht:=hok rfl
   have c3:=sCoreMapC m hm
   simp only at ht
   rw[ht.1]at c3
   simp -implicitDefEqProofs [obOf,hml,hsum,hmt,hzt]
   refine c3.call ?_
   simp -implicitDefEqProofs [obOf,hml,hsum,hmt,hzt]
 ·rw[show mpRd t=(z8,false) by unfold mpRd;rw[if_pos (.inr h8)]]
  simp -implicitDefEqProofs [show ¬ (400:Int)<t.length by omega,h1,strR,h8,show ¬ ((cutR 32 t []).length:Int)=8 by omega,z8,zPT,PT.row]
theorem findB_app (c:UInt8):∀ (w s:List UInt8) (i:Int),(∀ x∈w,x≠c)→findB c (w++c::s) i=i+w.length
 | [],s,i,_=>by simp[findB]
 | x::w,s,i,h=>by
  have hx:=h x (by simp)
  rw[List.cons_append,findB,if_neg hx,findB_app c w s (i+1) fun y hy=>h y (by simp[hy])]
  simp
  omega
theorem open_seal {s:List UInt8} (h:s.length≤400):openB (sealB s)=(s,true):=by
 have hs:sealB s=ddig (sumB s (1+s.length % 997)) []++58::s:=by
  unfold sealB
  rw[if_neg (by omega)]
 have hd:∀ x∈ddig (sumB s (1+s.length % 997)) [],x≠(58:UInt8):=fun x hx=>by
  rw[ddig_dec,List.append_nil]at hx
  have:=dig_ge _ x hx
  rintro rfl
  simp at this
 have hf:findB 58 (sealB s) 0=(ddig (sumB s (1+s.length % 997)) []).length:=by
  rw[hs,findB_app 58 _ _ 0 hd]
  simp
 have hdr:(sealB s).drop ((findB 58 (sealB s) 0).toNat+1)=s:=by
  rw[hf,hs]
  simp
 unfold openB
 rw[hdr,if_neg (by omega),if_pos rfl]
theorem dec_no (n:Int) (c:UInt8) (hc:c.toNat<48):∀ x∈dec n,x≠c:=fun x hx=>by
 unfold dec at hx
 rw[ddig_dec,List.append_nil]at hx
 have:=dig_ge _ x hx
 rintro rfl
 omega
theorem ptText_no {p:PT} (h:ptOkB p=true):∀ x∈qay p,x≠(32:UInt8):=by
 by_cases h0:p.pa=0
 ·unfold qay
  rw[if_neg (by simp[h]),if_pos h0]
  intro x hx
  simp only[List.mem_singleton]at hx
  subst hx
  decide
 ·rw[ptText_real (by simp[qam,h,h0])]
  exact join3_no _ _ _
theorem uber_words {n:Int} {p:PT} {t:List UInt8} (h:qbx n p=t) (ht:t≠[]) :
  (1≤n∧n≤1000000∧qam p=true)∧(openB t).2=true∧cutR 32 (openB t).1 []=[dec n,qay p,dec n]:=by
 unfold qbx at h
 split at h
 ·exact absurd h.symm ht
 ·rename_i hc
  have h1:1≤n∧n≤1000000∧qam p=true:=by
   refine⟨by omega,by omega,?_⟩
   cases hk:qam p with
   | true=>rfl
   | false=>exact absurd (.inr (.inr hk)) hc
  have hl1:=qap n (by omega)
  have hl2:=qbz p
  have hj:dec n++(32::(qay p++(32::dec n)))=Lib.join [dec n,qay p,dec n] [32]:=by
   rw[qau,qau,Lib.join_one]
  have ho:=open_seal (s:=dec n++(32::(qay p++(32::dec n)))) (by simp;omega)
  rw[h]at ho
  rw[ho]
  refine⟨h1,rfl,?_⟩
  rw[hj,join_cut 32 _ (by simp)]
  intro w hw
  simp only[List.mem_cons,List.not_mem_nil,or_false]at hw
  rcases hw with rfl | rfl | rfl
  ·exact dec_no n 32 (by decide)
  ·exact ptText_no (pt_real h1.2.2).1
  ·exact dec_no n 32 (by decide)
def ubRd (t:List UInt8):(Int×PT)×Bool :=
 match cutR 32 (openB t).1 []with
 | [a,b,_]=>if (openB t).2=true∧qbx (snumB a).1 (ptRd b).1=t then (((snumB a).1,(ptRd b).1),true) else ((0,zPT),false)
 | _=>((0,zPT),false)
theorem ubRd_n {t:List UInt8} (h:(cutR 32 (openB t).1 []).length≠3):ubRd t=((0,zPT),false):=by
 unfold ubRd
 split
 ·rename_i a b c hc
  rw[hc]at h
  simp at h
 ·rfl
theorem ubRd_3 {t a b c:List UInt8} (h:cutR 32 (openB t).1 []=[a,b,c]):ubRd t=if (openB t).2=true∧qbx (snumB a).1 (ptRd b).1=t then (((snumB a).1,(ptRd b).1),true) else ((0,zPT),false):=by
 unfold ubRd
 rw[h]
theorem dec_num {n:Int} (h1:0≤n) (h2:n≤1000000000):snumB (dec n)=(n,true)∧atoiK (dec n)=true∧atoiV (dec n)=n:=by
 rw[← dec_itoa n h1]
 have a:=snum_of (n:=n) (by omega)
 obtain⟨b,c⟩:=can_of (n:=n) (by omega) (by omega)
 refine⟨a,?_,c⟩
 simp only[canB,Bool.and_eq_true]at b
 exact b.1
theorem cut_ne {t a b c:List UInt8} (h:cutR 32 (openB t).1 []=[a,b,c]):t≠[]:=by
 rintro rfl
 simp[openB,findB,cutR]at h
theorem ubRd_i {t a b c:List UInt8} (h:cutR 32 (openB t).1 []=[a,b,c]) :
  ubRd t=if atoiK a=true∧(ptRd b).2=true∧qbx (atoiV a) (ptRd b).1=t then ((atoiV a,(ptRd b).1),true) else ((0,zPT),false):=by
 have hne:=cut_ne h
 rw[ubRd_3 h]
 by_cases q:(openB t).2=true∧qbx (snumB a).1 (ptRd b).1=t
 ·rw[if_pos q]
  obtain⟨⟨w1,w2,w3⟩,w4,w5⟩:=uber_words q.2 hne
  rw[h]at w5
  simp only[List.cons.injEq,and_true]at w5
  obtain⟨e1,e2,e3⟩:=w5
  obtain⟨d1,d2,d3⟩:=dec_num (n:=(snumB a).1) (by omega) (by omega)
  have hb:ptRd b=((ptRd b).1,true):=by
   have:=ptRd_of (pt_real w3).1
   rw[← e2]at this
   exact this
  rw[← e1]at d2 d3
  rw[if_pos ⟨d2,by rw[hb],by rw[d3];exact q.2⟩,d3]
 ·rw[if_neg q]
  by_cases g:atoiK a=true∧(ptRd b).2=true∧qbx (atoiV a) (ptRd b).1=t
  ·exfalso
   obtain⟨⟨w1,w2,w3⟩,w4,w5⟩:=uber_words g.2.2 hne
   rw[h]at w5
   simp only[List.cons.injEq,and_true]at w5
   obtain⟨e1,e2,e3⟩:=w5
   obtain⟨d1,d2,d3⟩:=dec_num (n:=atoiV a) (by omega) (by omega)
   rw[← e1]at d1
   exact q ⟨w4,by rw[d1];exact g.2.2⟩
  ·rw[if_neg g]
theorem sUberReadC (t:List UInt8) (hl:t.length≤1048576):CV prog 189 [.str t] (.tup [.int .i64 (ubRd t).1.1,.agg (ubRd t).1.2.row,.bool (ubRd t).2]):=by
 have c1:=sopenC t hl
 have hol:=openB_len t
 have c2:=scutC (openB t).1 32 (by omega)
 have hw:=qbi 32 (openB t).1 []
 simp only[List.length_nil,Nat.zero_add]at hw
 refine cvx func189 [(9,[zI 0,zJ 1 [10] [],zJ 2 [] [10],zI 3,zI 4])] ntmps189 rfl rfl rfl ?_ (hcv:=by simp[PT.row])
 simp -implicitDefEqProofs
 refine c1.call ?_
 simp -implicitDefEqProofs
 refine c2.call ?_
 by_cases h3:(cutR 32 (openB t).1 []).length=3
 ·obtain⟨a,b,c,hc⟩:=three_ex h3
  rw[hc]at hw
  have la:=hw a (by simp)
  have lb:=hw b (by simp)
  have e:=ubRd_3 hc
  have n1:=snumC a (by omega)
  have n2:=sPtrReadC b (by omega)
  have n3:=sUberC (snumB a).1 (ptRd b).1
  simp only[PT.row]at n2 n3
  cases ho:(openB t).2 with
  | false =>
   rw[if_neg (by simp[ho])]at e
   rw[e]
   simp -implicitDefEqProofs [zPT,PT.row]
  | true =>
   simp -implicitDefEqProofs [hc,strR]
   refine n1.call ?_
   simp -implicitDefEqProofs
   refine n2.call ?_
   simp -implicitDefEqProofs [PT.row]
   refine n3.call ?_
   by_cases q:qbx (snumB a).1 (ptRd b).1=t
   ·rw[if_pos ⟨ho,q⟩]at e
    rw[e]
    simp -implicitDefEqProofs [q,PT.row]
   ·rw[if_neg fun x=>q x.2]at e
    rw[e]
    simp -implicitDefEqProofs [q,zPT,PT.row]
 ·rw[ubRd_n h3]
  simp -implicitDefEqProofs [strR,h3,show ¬ ((cutR 32 (openB t).1 []).length:Int)=3 by omega,zPT,PT.row]
theorem iUberReadC (t:List UInt8) (hl:t.length≤1048576):CV prog 201 [.str t] (.tup [.int .i64 (ubRd t).1.1,.agg (ubRd t).1.2.row,.bool (ubRd t).2]):=by
 have c1:=iopenC t hl
 have hol:=openB_len t
 have c2:=splitC (openB t).1 32 (by omega)
 have hw:=qbi 32 (openB t).1 []
 simp only[List.length_nil,Nat.zero_add]at hw
 refine cvx func201 [(9,[zI 0,zJ 1 [10] [],zJ 2 [] [10],zI 3,zI 4])] ntmps201 rfl rfl rfl ?_ (hcv:=by simp[PT.row])
 simp -implicitDefEqProofs
 refine c1.call ?_
 simp -implicitDefEqProofs
 refine c2.call ?_
 by_cases h3:(cutR 32 (openB t).1 []).length=3
 ·obtain⟨a,b,c,hc⟩:=three_ex h3
  rw[hc]at hw
  have la:=hw a (by simp)
  have lb:=hw b (by simp)
  have e:=ubRd_i hc
  have n1:=atoiC a (by omega)
  have n2:=iPtrReadC b (by omega)
  have n3:=iUberC (atoiV a) (ptRd b).1
  simp only[PT.row]at n2 n3
  simp -implicitDefEqProofs [hc,strR]
  refine n1.call ?_
  simp -implicitDefEqProofs
  refine n2.call ?_
  cases hk:atoiK a with
  | false =>
   rw[if_neg (by simp[hk])]at e
   rw[e]
   simp -implicitDefEqProofs [errA,zPT,PT.row]
  | true =>
   cases hp:(ptRd b).2 with
   | false =>
    rw[if_neg (by simp[hp])]at e
    rw[e]
    simp -implicitDefEqProofs [errA,zPT,PT.row]
   | true =>
    simp -implicitDefEqProofs [errA,PT.row]
    refine n3.call ?_
    by_cases q:qbx (atoiV a) (ptRd b).1=t
    ·rw[if_pos ⟨hk,hp,q⟩]at e
     rw[e]
     simp -implicitDefEqProofs [q,PT.row]
    ·rw[if_neg fun x=>q x.2.2]at e
     rw[e]
     simp -implicitDefEqProofs [q,zPT,PT.row]
 ·rw[ubRd_n h3]
  simp -implicitDefEqProofs [strR,h3,show ¬ ((cutR 32 (openB t).1 []).length:Int)=3 by omega,zPT,PT.row]
theorem dig_find:∀ d:Fin 16,findB (digB d.val) hexL 0=(d.val:Int):=by decide
theorem unh_hex:∀ (s out:List UInt8),unhB (hexB s) out=(out++s,true)
 | [],out=>by simp[hexB,unhB]
 | c::r,out=>by
  have hc:c.toNat<256:=c.toNat_lt
  have h1:=dig_find ⟨c.toNat / 16,by omega⟩
  have h2:=dig_find ⟨c.toNat % 16,by omega⟩
  simp only at h1 h2
  rw[hexB,unhB,h1,h2,if_neg (by omega),unh_hex r]
  have:UInt8.ofNat ((c.toNat / 16:Nat) * 16+(c.toNat % 16:Nat):Int).toNat=c:=by
   have e:((c.toNat / 16:Nat) * 16+(c.toNat % 16:Nat):Int).toNat=c.toNat:=by omega
   rw[e]
   simp
  rw[this]
  simp
theorem dig_no:∀ d:Fin 16,digB d.val≠(32:UInt8):=by decide
theorem hexB_no:∀ (s:List UInt8),∀ x∈hexB s,x≠(32:UInt8)
 | [],x,hx=>by simp[hexB]at hx
 | c::r,x,hx=>by
  have hc:c.toNat<256:=c.toNat_lt
  rw[hexB]at hx
  rcases List.mem_cons.1 hx with rfl | hx
  ·exact dig_no ⟨c.toNat / 16,by omega⟩
  rcases List.mem_cons.1 hx with rfl | hx
  ·exact dig_no ⟨c.toNat % 16,by omega⟩
  ·exact hexB_no r x hx
theorem hexB_eq {s:List UInt8} (h:hexB s=[]):s=[]:=by
 cases s with
 | nil=>rfl
 | cons c r=>simp[hexB]at h
theorem hexT_no (s:List UInt8):∀ x∈hexT s,x≠(32:UInt8):=by
 unfold hexT
 split
 ·intro x hx
  simp only[List.mem_singleton]at hx
  subst hx
  decide
 ·exact hexB_no s
def unT (w:List UInt8):List UInt8:=if w=[45] then [] else (unhB w []).1
theorem hexB_ne (s:List UInt8):hexB s≠[45]:=fun h=>by
 have:=hexB_len s
 rw[h]at this
 simp at this
 omega
theorem unT_hex (s:List UInt8):unT (hexT s)=s∧(hexT s=[45]∨(unhB (hexT s) []).2=true):=by
 unfold hexT
 split
 ·rename_i h
  have:=hexB_eq h
  subst this
  exact⟨rfl,.inl rfl⟩
 ·rw[unh_hex s []]
  unfold unT
  rw[if_neg (hexB_ne s),unh_hex s []]
  exact⟨rfl,.inr rfl⟩
theorem name_no {s:List UInt8} (h:nameB s=true):∀ x∈s,x≠(32:UInt8):=fun x hx=>by
 simp only[nameB,Bool.and_eq_true,List.all_eq_true]at h
 have:=h.1.1 x hx
 rintro rfl
 simp[lowB]at this
theorem log_words {r:LR} {t:List UInt8} (h:qbv r=t) (ht:t≠[]) :
  lrOkB r=true∧(openB t).2=true∧cutR 32 (openB t).1 []=[dec r.txg++46::dec r.seq,r.op.a,dec r.op.i,hexT r.op.text,dec r.txg++46::dec r.seq]:=by
 unfold qbv at h
 split at h
 ·exact absurd h.symm ht
 ·rename_i hc
  have hk:lrOkB r=true:=by simpa using hc
  have hsp:(1≤r.txg∧r.txg≤1000000)∧(0≤r.seq∧r.seq<8)∧r.op.kind=3∧nameB r.op.a=true∧r.op.b=[]∧(0≤r.op.i∧r.op.i<8)∧r.op.text.length≤24:=by
   have:=hk
   simp only[lrOkB,Bool.and_eq_true,decide_eq_true_eq]at this
   grind
  obtain⟨s1,s2,s3,s4,s5,s6,s7⟩:=hsp
  have l1:=qap r.txg (by omega)
  have l2:=qap r.seq (by omega)
  have l3:=qap r.op.i (by omega)
  have l4:r.op.a.length≤6:=by
   simp only[nameB,Bool.and_eq_true,decide_eq_true_eq]at s4
   exact s4.2
  have l5:(hexT r.op.text).length≤48:=by
   have:=hexB_len r.op.text
   unfold hexT
   split
   ·simp
   ·omega
  have hj:dec r.txg++(46::(dec r.seq++(32::(r.op.a++(32::(dec r.op.i++(32::(hexT r.op.text++(32::(dec r.txg++(46::dec r.seq))))))))))) =
    Lib.join [dec r.txg++46::dec r.seq,r.op.a,dec r.op.i,hexT r.op.text,dec r.txg++46::dec r.seq] [32]:=by
   rw[qau,qau,qau,qau,Lib.join_one]
   simp
  have ho:=open_seal (s:=dec r.txg++(46::(dec r.seq++(32::(r.op.a++(32::(dec r.op.i++(32::(hexT r.op.text++(32::(dec r.txg++(46::dec r.seq)))))))))))) (by simp;omega)
  rw[h]at ho
  rw[ho]
  refine⟨hk,rfl,?_⟩
  have hm:∀ x∈dec r.txg++46::dec r.seq,x≠(32:UInt8):=fun x hx=>by
   simp only[List.mem_append,List.mem_cons]at hx
   rcases hx with hx | rfl | hx
   ·exact dec_no _ 32 (by decide) x hx
   ·decide
   ·exact dec_no _ 32 (by decide) x hx
  rw[hj,join_cut 32 _ (by simp)]
  intro w hw
  simp only[List.mem_cons,List.not_mem_nil,or_false]at hw
  rcases hw with rfl | rfl | rfl | rfl | rfl
  ·exact hm
  ·exact name_no s4
  ·exact dec_no _ 32 (by decide)
  ·exact hexT_no _
  ·exact hm
def zBO:BO:=⟨0,[],[],0,[]⟩
def zLR:LR:=⟨0,0,zBO⟩
def lgRd (t:List UInt8):LR×Bool :=
 match cutR 32 (openB t).1 []with
 | [m,a,i,x,_]=>match cutR 46 m []with
  | [p,q]=>if (openB t).2=true∧qbv ⟨(snumB p).1,(snumB q).1,⟨3,a,[],(snumB i).1,unT x⟩⟩=t then (⟨(snumB p).1,(snumB q).1,⟨3,a,[],(snumB i).1,unT x⟩⟩,true) else (zLR,false)
  | _=>(zLR,false)
 | _=>(zLR,false)
theorem lgRd_n {t:List UInt8} (h:(cutR 32 (openB t).1 []).length≠5):lgRd t=(zLR,false):=by
 unfold lgRd
 split
 ·rename_i hc
  rw[hc]at h
  simp at h
 ·rfl
theorem lgRd_m {t m a i x y:List UInt8} (h:cutR 32 (openB t).1 []=[m,a,i,x,y]) (hm:(cutR 46 m []).length≠2):lgRd t=(zLR,false):=by
 unfold lgRd
 rw[h]
 simp only
 split
 ·rename_i hc
  rw[hc]at hm
  simp at hm
 ·rfl
theorem lgRd_5 {t m a i x y p q:List UInt8} (h:cutR 32 (openB t).1 []=[m,a,i,x,y]) (hm:cutR 46 m []=[p,q]) :
  lgRd t=if (openB t).2=true∧qbv ⟨(snumB p).1,(snumB q).1,⟨3,a,[],(snumB i).1,unT x⟩⟩=t then (⟨(snumB p).1,(snumB q).1,⟨3,a,[],(snumB i).1,unT x⟩⟩,true) else (zLR,false):=by
 unfold lgRd
 rw[h]
 simp only[hm]
theorem cut5_ne {t m a i x y:List UInt8} (h:cutR 32 (openB t).1 []=[m,a,i,x,y]):t≠[]:=by
 rintro rfl
 simp[openB,findB,cutR]at h
theorem cut_two {n k:Int}:cutR 46 (dec n++46::dec k) []=[dec n,dec k]:=by
 rw[cutR_app 46 _ _ [] (dec_no n 46 (by decide)),cutR_one 46 _ [] (dec_no k 46 (by decide))]
 rfl
theorem cut1_two {n k:Int}:cut1 46 (dec n++46::dec k)=(dec n,dec k,true):=by
 have:=findB_app 46 (dec n) (dec k) 0 (dec_no n 46 (by decide))
 unfold cut1
 rw[this,if_neg (by omega)]
 simp
theorem lgRd_i {t m a i x y:List UInt8} (h:cutR 32 (openB t).1 []=[m,a,i,x,y]) :
  lgRd t=if atoiK (cut1 46 m).1=true∧atoiK (cut1 46 m).2.1=true∧atoiK i=true∧(x=[45]∨(unhB x []).2=true)∧qbv ⟨atoiV (cut1 46 m).1,atoiV (cut1 46 m).2.1,⟨3,a,[],atoiV i,unT x⟩⟩=t
   then (⟨atoiV (cut1 46 m).1,atoiV (cut1 46 m).2.1,⟨3,a,[],atoiV i,unT x⟩⟩,true) else (zLR,false):=by
 have hne:=cut5_ne h
 have key:∀ r:LR,qbv r=t→m=dec r.txg++46::dec r.seq∧a=r.op.a∧i=dec r.op.i∧x=hexT r.op.text∧(openB t).2=true∧lrOkB r=true:=fun r hr=>by
  obtain⟨w1,w2,w3⟩:=log_words hr hne
  rw[h]at w3
  simp only[List.cons.injEq,and_true]at w3
  exact⟨w3.1,w3.2.1,w3.2.2.1,w3.2.2.2.1,w2,w1⟩
 have bnd:∀ r:LR,lrOkB r=true→(1≤r.txg∧r.txg≤1000000)∧(0≤r.seq∧r.seq<8)∧(0≤r.op.i∧r.op.i<8):=fun r hk=>by
  simp only[lrOkB,Bool.and_eq_true,decide_eq_true_eq]at hk
  grind
 by_cases g:atoiK (cut1 46 m).1=true∧atoiK (cut1 46 m).2.1=true∧atoiK i=true∧(x=[45]∨(unhB x []).2=true)∧qbv ⟨atoiV (cut1 46 m).1,atoiV (cut1 46 m).2.1,⟨3,a,[],atoiV i,unT x⟩⟩=t
 ·rw[if_pos g]
  obtain⟨k1,k2,k3,k4,k5,k6⟩:=key _ g.2.2.2.2
  obtain⟨b1,b2,b3⟩:=bnd _ k6
  simp only at k1 k3 b1 b2 b3
  have hc:=@cut_two (atoiV (cut1 46 m).1) (atoiV (cut1 46 m).2.1)
  rw[← k1]at hc
  rw[lgRd_5 h hc]
  obtain⟨d1,_⟩:=dec_num (n:=atoiV (cut1 46 m).1) (by omega) (by omega)
  obtain⟨d2,_⟩:=dec_num (n:=atoiV (cut1 46 m).2.1) (by omega) (by omega)
  obtain⟨d3,_⟩:=dec_num (n:=atoiV i) (by omega) (by omega)
  rw[← k3]at d3
  rw[d1,d2,d3,if_pos ⟨k5,g.2.2.2.2⟩]
 ·rw[if_neg g]
  by_cases h2:(cutR 46 m []).length=2
  ·obtain⟨p,q,hc⟩:∃ p q,cutR 46 m []=[p,q]:=by
    match hm:cutR 46 m [],h2 with
    | [p,q],_=>exact⟨p,q,rfl⟩
   rw[lgRd_5 h hc]
   split
   ·rename_i hs
    exfalso
    obtain⟨k1,k2,k3,k4,k5,k6⟩:=key _ hs.2
    obtain⟨b1,b2,b3⟩:=bnd _ k6
    simp only at k1 k3 k4 b1 b2 b3
    have h1:=@cut1_two (snumB p).1 (snumB q).1
    rw[← k1]at h1
    obtain⟨_,d1,e1⟩:=dec_num (n:=(snumB p).1) (by omega) (by omega)
    obtain⟨_,d2,e2⟩:=dec_num (n:=(snumB q).1) (by omega) (by omega)
    obtain⟨_,d3,e3⟩:=dec_num (n:=(snumB i).1) (by omega) (by omega)
    rw[← k3]at d3 e3
    refine g ⟨by rw[h1];exact d1,by rw[h1];exact d2,d3,?_,?_⟩
    ·have:=(unT_hex (unT x)).2
     rw[← k4]at this
     exact this
    ·rw[h1]
     simp only
     rw[e1,e2,e3]
     exact hs.2
   ·rfl
  ·exact lgRd_m h h2
theorem five_ex {α:Type} {l:List α} (h:l.length=5):∃ a b c d e,l=[a,b,c,d,e]:=by
 match l,h with
 | [a,b,c,d,e],_=>exact⟨a,b,c,d,e,rfl⟩
theorem two_ex {α:Type} {l:List α} (h:l.length=2):∃ a b,l=[a,b]:=by
 match l,h with
 | [a,b],_=>exact⟨a,b,rfl⟩
theorem unhB_len:∀ (s out:List UInt8),(unhB s out).1.length≤out.length+s.length
 | [],out=>by simp[unhB]
 | [_],out=>by simp[unhB]
 | a::b::r,out=>by
  rw[unhB]
  split
  ·simp
  ·have:=unhB_len r (out++[UInt8.ofNat (findB a hexL 0 * 16+findB b hexL 0).toNat])
   simp at this ⊢
   omega
theorem unT_len (x:List UInt8):(unT x).length≤x.length:=by
 unfold unT
 split
 ·simp
 ·have:=unhB_len x []
  simpa using this
theorem sLogReadC (t:List UInt8) (hl:t.length≤1000000):CV prog 198 [.str t] (.tup [.agg (lgRd t).1.row,.bool (lgRd t).2]):=by
 have c1:=sopenC t (by omega)
 have hol:=openB_len t
 have c2:=scutC (openB t).1 32 (by omega)
 have hw:=qbi 32 (openB t).1 []
 simp only[List.length_nil,Nat.zero_add]at hw
 refine cvx func198 [] ntmps198 rfl rfl rfl ?_ (hcv:=by simp[LR.row,BO.row])
 simp -implicitDefEqProofs
 refine c1.call ?_
 simp -implicitDefEqProofs
 refine c2.call ?_
 by_cases h5:(cutR 32 (openB t).1 []).length=5
 ·obtain⟨m,a,i,x,y,hc⟩:=five_ex h5
  rw[hc]at hw
  have lm:=hw m (by simp)
  have la:=hw a (by simp)
  have li:=hw i (by simp)
  have lx:=hw x (by simp)
  have lt:=unT_len x
  have c3:=scutC m 46 (by omega)
  have hw2:=qbi 46 m []
  simp only[List.length_nil,Nat.zero_add]at hw2
  cases ho:(openB t).2 with
  | false =>
   have e:lgRd t=(zLR,false):=by
    by_cases h2:(cutR 46 m []).length=2
    ·obtain⟨p,q,hm⟩:=two_ex h2
     rw[lgRd_5 hc hm,if_neg (by simp[ho])]
    ·exact lgRd_m hc h2
   rw[e]
   simp -implicitDefEqProofs [zLR,zBO,LR.row,BO.row]
  | true =>
   simp -implicitDefEqProofs [hc,strR]
   refine c3.call ?_
   by_cases h2:(cutR 46 m []).length=2
   ·obtain⟨p,q,hm⟩:=two_ex h2
    rw[hm]at hw2
    have lp:=hw2 p (by simp)
    have lq:=hw2 q (by simp)
    have e:=lgRd_5 hc hm
    have n1:=snumC p (by omega)
    have n2:=snumC q (by omega)
    have n3:=snumC i (by omega)
    have n4:=sunhC x (by omega)
    have n5:=sLogTextC ⟨(snumB p).1,(snumB q).1,⟨3,a,[],(snumB i).1,unT x⟩⟩ (by simp only;omega) (by simp only;omega)
    simp only[LR.row,BO.row]at n5
    simp -implicitDefEqProofs [hm,strR]
    refine n1.call ?_
    simp -implicitDefEqProofs
    refine n2.call ?_
    simp -implicitDefEqProofs
    refine n3.call ?_
    by_cases hx:x=[45]
    ·have hu:unT x=[]:=by unfold unT;rw[if_pos hx]
     rw[hu]at n5 e
     simp -implicitDefEqProofs [hx,LR.row,BO.row]
     refine n5.call ?_
     by_cases q2:qbv ⟨(snumB p).1,(snumB q).1,⟨3,a,[],(snumB i).1,[]⟩⟩=t
     ·rw[if_pos ⟨ho,q2⟩]at e
      rw[e]
      simp -implicitDefEqProofs [q2,LR.row,BO.row]
     ·rw[if_neg fun z=>q2 z.2]at e
      rw[e]
      simp -implicitDefEqProofs [q2,zLR,zBO,LR.row,BO.row]
    ·have hu:unT x=(unhB x []).1:=by unfold unT;rw[if_neg hx]
     rw[hu]at n5 e
     simp -implicitDefEqProofs [hx,LR.row,BO.row]
     refine n4.call ?_
     simp -implicitDefEqProofs
     refine n5.call ?_
     by_cases q2:qbv ⟨(snumB p).1,(snumB q).1,⟨3,a,[],(snumB i).1,(unhB x []).1⟩⟩=t
     ·rw[if_pos ⟨ho,q2⟩]at e
      rw[e]
      simp -implicitDefEqProofs [q2,LR.row,BO.row]
     ·rw[if_neg fun z=>q2 z.2]at e
      rw[e]
      simp -implicitDefEqProofs [q2,zLR,zBO,LR.row,BO.row]
   ·rw[lgRd_m hc h2]
    simp -implicitDefEqProofs [strR,h2,show ¬ ((cutR 46 m []).length:Int)=2 by omega,zLR,zBO,LR.row,BO.row]
 ·rw[lgRd_n h5]
  simp -implicitDefEqProofs [strR,h5,show ¬ ((cutR 32 (openB t).1 []).length:Int)=5 by omega,zLR,zBO,LR.row,BO.row]
theorem iLogReadC (t:List UInt8) (hl:t.length≤1000000):CV prog 125 [.str t] (.tup [.agg (lgRd t).1.row,.bool (lgRd t).2]):=by
 have c1:=iopenC t (by omega)
 have hol:=openB_len t
 have c2:=splitC (openB t).1 32 (by omega)
 have hw:=qbi 32 (openB t).1 []
 simp only[List.length_nil,Nat.zero_add]at hw
 refine cvx func125 [] ntmps125 rfl rfl rfl ?_ (hcv:=by simp[LR.row,BO.row])
 simp -implicitDefEqProofs
 refine c1.call ?_
 simp -implicitDefEqProofs
 refine c2.call ?_
 by_cases h5:(cutR 32 (openB t).1 []).length=5
 ·obtain⟨m,a,i,x,y,hc⟩:=five_ex h5
  rw[hc]at hw
  have lm:=hw m (by simp)
  have la:=hw a (by simp)
  have li:=hw i (by simp)
  have lx:=hw x (by simp)
  have lt:=unT_len x
  have lc:=cut1_len 46 m
  have c3:=cutC m 46 (by omega)
  have n1:=atoiC (cut1 46 m).1 (by omega)
  have n2:=atoiC (cut1 46 m).2.1 (by omega)
  have n3:=atoiC i (by omega)
  have n4:=iunhC x (by omega)
  have e:=lgRd_i hc
  generalize cut1 46 m=M at *
  obtain⟨p,q,b⟩:=M
  simp only at lc n1 n2 e c3
  have n5:=ilogTextC ⟨atoiV p,atoiV q,⟨3,a,[],atoiV i,unT x⟩⟩ (by simp only;omega) (by simp only;omega)
  simp only[LR.row,BO.row]at n5
  simp -implicitDefEqProofs [hc,strR]
  refine c3.call ?_
  simp -implicitDefEqProofs
  refine n1.call ?_
  simp -implicitDefEqProofs
  refine n2.call ?_
  simp -implicitDefEqProofs [strR]
  refine n3.call ?_
  simp -implicitDefEqProofs [strR]
  refine n4.call ?_
  by_cases hx:x=[45]
  ·have hu:unT x=[]:=by unfold unT;rw[if_pos hx]
   rw[hu]at n5 e
   cases k1:atoiK p with
   | false =>
    rw[if_neg (by simp[k1])]at e
    rw[e]
    simp -implicitDefEqProofs [hx,errA,zLR,zBO,LR.row,BO.row]
   | true =>
    cases k2:atoiK q with
    | false =>
     rw[if_neg (by simp[k2])]at e
     rw[e]
     simp -implicitDefEqProofs [hx,errA,zLR,zBO,LR.row,BO.row]
    | true =>
     cases k3:atoiK i with
     | false =>
      rw[if_neg (by simp[k3])]at e
      rw[e]
      simp -implicitDefEqProofs [hx,errA,zLR,zBO,LR.row,BO.row]
     | true =>
      simp -implicitDefEqProofs [hx,errA,LR.row,BO.row]
      refine n5.call ?_
      by_cases q2:qbv ⟨atoiV p,atoiV q,⟨3,a,[],atoiV i,[]⟩⟩=t
      ·rw[if_pos ⟨k1,k2,k3,.inl hx,q2⟩]at e
       rw[e]
       simp -implicitDefEqProofs [q2,LR.row,BO.row]
      ·rw[if_neg fun z=>q2 z.2.2.2.2]at e
       rw[e]
       simp -implicitDefEqProofs [q2,zLR,zBO,LR.row,BO.row]
  ·have hu:unT x=(unhB x []).1:=by unfold unT;rw[if_neg hx]
   rw[hu]at n5 e
   cases k1:atoiK p with
   | false =>
    rw[if_neg (by simp[k1])]at e
    rw[e]
    simp -implicitDefEqProofs [hx,errA,zLR,zBO,LR.row,BO.row]
   | true =>
    cases k2:atoiK q with
    | false =>
     rw[if_neg (by simp[k2])]at e
     rw[e]
     simp -implicitDefEqProofs [hx,errA,zLR,zBO,LR.row,BO.row]
    | true =>
     cases k3:atoiK i with
     | false =>
      rw[if_neg (by simp[k3])]at e
      rw[e]
      simp -implicitDefEqProofs [hx,errA,zLR,zBO,LR.row,BO.row]
     | true =>
      cases k4:(unhB x []).2 with
      | false =>
       rw[if_neg (by simp[hx,k4])]at e
       rw[e]
       simp -implicitDefEqProofs [hx,errA,zLR,zBO,LR.row,BO.row]
      | true =>
       simp -implicitDefEqProofs [hx,errA,LR.row,BO.row]
       refine n5.call ?_
       by_cases q2:qbv ⟨atoiV p,atoiV q,⟨3,a,[],atoiV i,(unhB x []).1⟩⟩=t
       ·rw[if_pos ⟨k1,k2,k3,.inr k4,q2⟩]at e
        rw[e]
        simp -implicitDefEqProofs [q2,LR.row,BO.row]
       ·rw[if_neg fun z=>q2 z.2.2.2.2]at e
        rw[e]
        simp -implicitDefEqProofs [q2,zLR,zBO,LR.row,BO.row]
 ·rw[lgRd_n h5]
  simp -implicitDefEqProofs [strR,h5,show ¬ ((cutR 32 (openB t).1 []).length:Int)=5 by omega,zLR,zBO,LR.row,BO.row]
abbrev RS2:=List CS×List PT
def mkS (nm:List UInt8) (k:Int) (fr:List UInt8) (h:PT):CS:=⟨nm,k,fr,z8,h,false⟩
def frR (w:List UInt8):List UInt8:=if w=[45] then [] else w
def lineS (x:RS2) (l:List UInt8):RS2×Bool :=
 match cutR 32 l []with
 | [a,b]=>if a=[46] then ((x.1,x.2++[(ptRd b).1]),(ptRd b).2) else (x,false)
 | [a,b,c,d]=>((x.1++[mkS a (snumB b).1 (frR c) (ptRd d).1],x.2),(snumB b).2 && (ptRd d).2)
 | _=>(x,false)
def lineI (x:RS2) (l:List UInt8):RS2×Bool :=
 match cutR 32 l []with
 | [a,b]=>if (ptRd b).2=true∧a=[46] then ((x.1,x.2++[(ptRd b).1]),true) else (x,false)
 | [a,b,c,d]=>if (ptRd d).2=true then ((x.1++[mkS a (atoiV b) (frR c) (ptRd d).1],x.2),atoiK b) else (x,false)
 | _=>(x,false)
def runL (f:RS2→List UInt8→RS2×Bool):List (List UInt8)→RS2→Option RS2
 | [],x=>some x
 | l::r,x=>if (f x l).2=true then runL f r (f x l).1 else none
def coreL (x:RS2):CO:=⟨0,x.1,[],x.2,false,[],0⟩
def accB (t:List UInt8) (x:RS2):Bool:=decide (qch (coreL x)=t) && qbb (x.1.map csB) && decide (x.2.length≤8)
def rootW:List UInt8:=[114,111,111,116]
def finB (t:List UInt8) (o:Option RS2):CO×Bool :=
 match o with
 | some x=>if accB t x=true then (coreL x,true) else (zK,false)
 | none=>(zK,false)
def rtRd (t:List UInt8):CO×Bool :=
 if 420<t.length∨(cutR 10 t []).head?≠some rootW then (zK,false) else finB t (runL lineS (cutR 10 t []).tail ([],[]))
def setT (s:CS):List UInt8:=s.name++(32::(dec s.kind++(32::(fromT s.frm++(32::qay s.home)))))
def parT (p:PT):List UInt8:=46::32::qay p
theorem rootSets_eq:∀ {l:List CS} {t:List UInt8},rootSets l=some t→(∀ s∈l,csOkB s=true)∧t=Lib.joinTail [10] (l.map setT)
 | [],t,h=>by
  simp only[rootSets,Option.some.injEq]at h
  subst h
  exact⟨by simp,by simp[Lib.joinTail]⟩
 | s::r,t,h=>by
  rw[rootSets]at h
  split at h
  ·cases h
  ·rename_i hk
   cases hr:rootSets r with
   | none=>rw[hr]at h;cases h
   | some u =>
    rw[hr]at h
    simp only[Option.map_some,Option.some.injEq]at h
    subst h
    obtain⟨h1,h2⟩:=rootSets_eq hr
    refine⟨fun x hx=>?_,?_⟩
    ·rcases List.mem_cons.1 hx with rfl | hx
     ·simpa using hk
     ·exact h1 x hx
    ·subst h2
     simp[Lib.joinTail,rootSet,setT]
theorem rootParts_eq:∀ {l:List PT} {t:List UInt8},qbm l=some t→(∀ p∈l,qam p=true)∧t=Lib.joinTail [10] (l.map parT)
 | [],t,h=>by
  simp only[qbm,Option.some.injEq]at h
  subst h
  exact⟨by simp,by simp[Lib.joinTail]⟩
 | p::r,t,h=>by
  rw[qbm]at h
  split at h
  ·cases h
  ·rename_i hk
   cases hr:qbm r with
   | none=>rw[hr]at h;cases h
   | some u =>
    rw[hr]at h
    simp only[Option.map_some,Option.some.injEq]at h
    subst h
    obtain⟨h1,h2⟩:=rootParts_eq hr
    refine⟨fun x hx=>?_,?_⟩
    ·rcases List.mem_cons.1 hx with rfl | hx
     ·simpa using hk
     ·exact h1 x hx
    ·subst h2
     simp[Lib.joinTail,parT]
theorem joinTail_app (sep:List UInt8) (a b:List (List UInt8)):Lib.joinTail sep (a++b)=Lib.joinTail sep a++Lib.joinTail sep b:=by
 simp[Lib.joinTail]
theorem name_no10 {s:List UInt8} (h:nameB s=true):∀ x∈s,x≠(10:UInt8):=fun x hx=>by
 simp only[nameB,Bool.and_eq_true,List.all_eq_true]at h
 have:=h.1.1 x hx
 rintro rfl
 simp[lowB]at this
theorem ptText_no10 {p:PT} (h:ptOkB p=true):∀ x∈qay p,x≠(10:UInt8):=by
 by_cases h0:p.pa=0
 ·unfold qay
  rw[if_neg (by simp[h]),if_pos h0]
  intro x hx
  simp only[List.mem_singleton]at hx
  subst hx
  decide
 ·rw[ptText_real (by simp[qam,h,h0]),qau,qau,Lib.join_one]
  intro x hx
  simp only[List.mem_append,List.mem_cons]at hx
  rcases hx with hx | rfl | hx | rfl | hx
  ·exact itoa_ne _ 10 (by decide) (by decide) x hx
  ·decide
  ·exact itoa_ne _ 10 (by decide) (by decide) x hx
  ·decide
  ·exact itoa_ne _ 10 (by decide) (by decide) x hx
theorem csOk_all {s:CS} (h:csOkB s=true):nameB s.name=true∧(s.frm=[]∨nameB s.frm=true)∧(1≤s.kind∧s.kind≤2)∧ptOkB s.home=true:=by
 simp only[csOkB,Bool.and_eq_true,Bool.or_eq_true,decide_eq_true_eq,List.isEmpty_iff]at h
 exact⟨h.1.1.1.1,h.1.1.1.2,h.1.1.2,h.1.2⟩
theorem fromT_no {s:List UInt8} (h:s=[]∨nameB s=true):(∀ x∈fromT s,x≠(32:UInt8))∧(∀ x∈fromT s,x≠(10:UInt8))∧frR (fromT s)=s:=by
 rcases h with rfl | h
 ·refine⟨?_,?_,rfl⟩
  ·intro x hx
   simp only[fromT,if_true,List.mem_singleton]at hx
   subst hx
   decide
  ·intro x hx
   simp only[fromT,if_true,List.mem_singleton]at hx
   subst hx
   decide
 ·have hne:s≠[]:=by
   rintro rfl
   simp[nameB]at h
  have hf:fromT s=s:=by unfold fromT;rw[if_neg hne]
  rw[hf]
  refine⟨name_no h,name_no10 h,?_⟩
  unfold frR
  rw[if_neg]
  rintro rfl
  revert h
  decide
theorem setT_no {s:CS} (h:csOkB s=true):∀ x∈setT s,x≠(10:UInt8):=by
 obtain⟨h1,h2,h3,h4⟩:=csOk_all h
 intro x hx
 simp only[setT,List.mem_append,List.mem_cons]at hx
 rcases hx with hx | rfl | hx | rfl | hx | rfl | hx
 ·exact name_no10 h1 x hx
 ·decide
 ·exact dec_no _ 10 (by decide) x hx
 ·decide
 ·exact(fromT_no h2).2.1 x hx
 ·decide
 ·exact ptText_no10 h4 x hx
theorem parT_no {p:PT} (h:qam p=true):∀ x∈parT p,x≠(10:UInt8):=by
 intro x hx
 simp only[parT,List.mem_cons]at hx
 rcases hx with rfl | rfl | hx
 ·decide
 ·decide
 ·exact ptText_no10 (pt_real h).1 x hx
theorem root_lines {x:RS2} {t:List UInt8} (h:qch (coreL x)=t) (ht:t≠[]) :
  (∀ s∈x.1,csOkB s=true)∧(∀ p∈x.2,qam p=true)∧cutR 10 t []=rootW::(x.1.map setT++x.2.map parT):=by
 unfold qch coreL at h
 simp only at h
 cases h1:rootSets x.1 with
 | none =>
  rw[h1]at h
  exact absurd h.symm ht
 | some a =>
  cases h2:qbm x.2 with
  | none =>
   rw[h1,h2]at h
   exact absurd h.symm ht
  | some b =>
   rw[h1,h2]at h
   simp only[Option.bind_some,Option.map_some,Option.getD_some]at h
   obtain⟨a1,a2⟩:=rootSets_eq h1
   obtain⟨b1,b2⟩:=rootParts_eq h2
   refine⟨a1,b1,?_⟩
   have:t=Lib.join (rootW::(x.1.map setT++x.2.map parT)) [10]:=by
    rw[Lib.join_cons,joinTail_app,← a2,← b2,← h]
    rfl
   rw[this,join_cut 10 _ (by simp)]
   intro w hw
   simp only[List.mem_cons,List.mem_append,List.mem_map]at hw
   rcases hw with rfl | ⟨s,hs,rfl⟩ | ⟨p,hp,rfl⟩
   ·decide
   ·exact setT_no (a1 s hs)
   ·exact parT_no (b1 p hp)
theorem setT_cut {s:CS} (h:csOkB s=true):cutR 32 (setT s) []=[s.name,dec s.kind,fromT s.frm,qay s.home]:=by
 obtain⟨h1,h2,h3,h4⟩:=csOk_all h
 have hj:setT s=Lib.join [s.name,dec s.kind,fromT s.frm,qay s.home] [32]:=by
  rw[qau,qau,qau,Lib.join_one]
  rfl
 rw[hj,join_cut 32 _ (by simp)]
 intro w hw
 simp only[List.mem_cons,List.not_mem_nil,or_false]at hw
 rcases hw with rfl | rfl | rfl | rfl
 ·exact name_no h1
 ·exact dec_no _ 32 (by decide)
 ·exact(fromT_no h2).1
 ·exact ptText_no h4
theorem parT_cut {p:PT} (h:qam p=true):cutR 32 (parT p) []=[[46],qay p]:=by
 have hj:parT p=Lib.join [[46],qay p] [32]:=by
  rw[qau,Lib.join_one]
  rfl
 rw[hj,join_cut 32 _ (by simp)]
 intro w hw
 simp only[List.mem_cons,List.not_mem_nil,or_false]at hw
 rcases hw with rfl | rfl
 ·decide
 ·exact ptText_no (pt_real h).1
def nrm (s:CS):Prop:=s.map=z8∧s.dirty=false
theorem nrm_eq {s:CS} (h:nrm s):mkS s.name s.kind s.frm s.home=s:=by
 obtain⟨a,b,c,m,e,d⟩:=s
 obtain⟨h1,h2⟩:=h
 simp only at h1 h2
 subst h1
 subst h2
 rfl
theorem lineS_set {s:CS} (h:csOkB s=true) (hn:nrm s) (x:RS2):lineS x (setT s)=((x.1++[s],x.2),true):=by
 obtain⟨h1,h2,h3,h4⟩:=csOk_all h
 obtain⟨d1,d2,d3⟩:=dec_num (n:=s.kind) (by omega) (by omega)
 unfold lineS
 rw[setT_cut h]
 simp only[d1,ptRd_of h4,(fromT_no h2).2.2,nrm_eq hn,Bool.and_self]
theorem lineI_set {s:CS} (h:csOkB s=true) (hn:nrm s) (x:RS2):lineI x (setT s)=((x.1++[s],x.2),true):=by
 obtain⟨h1,h2,h3,h4⟩:=csOk_all h
 obtain⟨d1,d2,d3⟩:=dec_num (n:=s.kind) (by omega) (by omega)
 unfold lineI
 rw[setT_cut h]
 simp only[d2,d3,ptRd_of h4,(fromT_no h2).2.2,nrm_eq hn,if_true]
theorem lineS_par {p:PT} (h:qam p=true) (x:RS2):lineS x (parT p)=((x.1,x.2++[p]),true):=by
 unfold lineS
 rw[parT_cut h]
 simp only[ptRd_of (pt_real h).1,if_true]
theorem lineI_par {p:PT} (h:qam p=true) (x:RS2):lineI x (parT p)=((x.1,x.2++[p]),true):=by
 unfold lineI
 rw[parT_cut h]
 simp[ptRd_of (pt_real h).1]
theorem runL_app (f:RS2→List UInt8→RS2×Bool):∀ (a b:List (List UInt8)) (x:RS2),runL f (a++b) x=(runL f a x).bind (runL f b)
 | [],b,x=>rfl
 | l::r,b,x=>by
  rw[List.cons_append,runL,runL]
  split
  ·exact runL_app f r b _
  ·rfl
theorem runL_sets {f:RS2→List UInt8→RS2×Bool} (hf:∀ s,csOkB s=true→nrm s→∀ x,f x (setT s)=((x.1++[s],x.2),true)):∀ (l:List CS) (x:RS2),(∀ s∈l,csOkB s=true∧nrm s)→runL f (l.map setT) x=some (x.1++l,x.2)
 | [],x,_=>by simp[runL]
 | s::r,x,h=>by
  obtain⟨h1,h2⟩:=h s (by simp)
  rw[List.map_cons,runL,hf s h1 h2 x,if_pos rfl,runL_sets hf r _ fun y hy=>h y (by simp[hy])]
  simp
theorem runL_pars {f:RS2→List UInt8→RS2×Bool} (hf:∀ p,qam p=true→∀ x,f x (parT p)=((x.1,x.2++[p]),true)):∀ (l:List PT) (x:RS2),(∀ p∈l,qam p=true)→runL f (l.map parT) x=some (x.1,x.2++l)
 | [],x,_=>by simp[runL]
 | p::r,x,h=>by
  rw[List.map_cons,runL,hf p (h p (by simp)) x,if_pos rfl,runL_pars hf r _ fun y hy=>h y (by simp[hy])]
  simp
theorem nrm_app {l:List CS} {s:CS} (h:∀ x∈l,nrm x) (hs:nrm s):∀ x∈l++[s],nrm x:=fun x hx=>by
 rcases List.mem_append.1 hx with hx | hx
 ·exact h x hx
 ·simp only[List.mem_singleton]at hx
  subst hx
  exact hs
theorem lineS_nrm (x:RS2) (l:List UInt8) (h:∀ s∈x.1,nrm s):∀ s∈(lineS x l).1.1,nrm s:=by
 unfold lineS
 split
 ·split <;> exact h
 ·exact nrm_app h ⟨rfl,rfl⟩
 ·exact h
theorem lineI_nrm (x:RS2) (l:List UInt8) (h:∀ s∈x.1,nrm s):∀ s∈(lineI x l).1.1,nrm s:=by
 unfold lineI
 split
 ·split <;> exact h
 ·split
  ·exact nrm_app h ⟨rfl,rfl⟩
  ·exact h
 ·exact h
theorem runL_nrm {f:RS2→List UInt8→RS2×Bool} (hf:∀ x l,(∀ s∈x.1,nrm s)→∀ s∈(f x l).1.1,nrm s):∀ (ls:List (List UInt8)) (x y:RS2),(∀ s∈x.1,nrm s)→runL f ls x=some y→∀ s∈y.1,nrm s
 | [],x,y,h,e=>by
  simp only[runL,Option.some.injEq]at e
  subst e
  exact h
 | l::r,x,y,h,e=>by
  rw[runL]at e
  split at e
  ·exact runL_nrm hf r _ y (hf x l h) e
  ·cases e
theorem run_back {f g:RS2→List UInt8→RS2×Bool} (hf:∀ x l,(∀ s∈x.1,nrm s)→∀ s∈(f x l).1.1,nrm s)
  (hg1:∀ s,csOkB s=true→nrm s→∀ x,g x (setT s)=((x.1++[s],x.2),true)) (hg2:∀ p,qam p=true→∀ x,g x (parT p)=((x.1,x.2++[p]),true))
  {t:List UInt8} {x:RS2} (h:runL f (cutR 10 t []).tail ([],[])=some x) (ht:qch (coreL x)=t) (hne:t≠[]) :
  runL g (cutR 10 t []).tail ([],[])=some x∧(cutR 10 t []).head?=some rootW:=by
 obtain⟨r1,r2,r3⟩:=root_lines ht hne
 have hn:=runL_nrm hf _ _ x (by simp) h
 rw[r3]
 refine⟨?_,rfl⟩
 rw[List.tail_cons,runL_app,runL_sets hg1 x.1 ([],[]) fun s hs=>⟨r1 s hs,hn s hs⟩,Option.bind_some,runL_pars hg2 x.2 _ r2]
 simp
theorem acc_text {t:List UInt8} {x:RS2} (h:accB t x=true):qch (coreL x)=t:=by
 simp only[accB,Bool.and_eq_true,decide_eq_true_eq]at h
 exact h.1.1
theorem rtRd_i {t:List UInt8} (h1:¬ 420<t.length):rtRd t=finB t (runL lineI (cutR 10 t []).tail ([],[])):=by
 by_cases hne:t=[]
 ·subst hne
  decide
 by_cases hd:(cutR 10 t []).head?=some rootW
 ·unfold rtRd
  rw[if_neg (by rintro(e | e);exact h1 e;exact e hd)]
  cases hs:runL lineS (cutR 10 t []).tail ([],[])with
  | some x =>
   by_cases ha:accB t x=true
   ·obtain⟨b1,_⟩:=run_back lineS_nrm (fun s h hn x=>lineI_set h hn x) (fun p h x=>lineI_par h x) hs (acc_text ha) hne
    rw[b1]
   ·cases hi:runL lineI (cutR 10 t []).tail ([],[])with
    | none=>simp[finB,ha]
    | some y =>
     by_cases hb:accB t y=true
     ·obtain⟨b1,_⟩:=run_back lineI_nrm (fun s h hn x=>lineS_set h hn x) (fun p h x=>lineS_par h x) hi (acc_text hb) hne
      rw[hs]at b1
      injection b1 with b1
      subst b1
      exact absurd hb ha
     ·simp[finB,ha,hb]
  | none =>
   cases hi:runL lineI (cutR 10 t []).tail ([],[])with
   | none=>rfl
   | some y =>
    by_cases hb:accB t y=true
    ·obtain⟨b1,_⟩:=run_back lineI_nrm (fun s h hn x=>lineS_set h hn x) (fun p h x=>lineS_par h x) hi (acc_text hb) hne
     rw[hs]at b1
     cases b1
    ·simp[finB,hb]
 ·unfold rtRd
  rw[if_pos (.inr hd)]
  cases hi:runL lineI (cutR 10 t []).tail ([],[])with
  | none=>rfl
  | some y =>
   by_cases hb:accB t y=true
   ·obtain⟨_,b2⟩:=run_back lineI_nrm (fun s h hn x=>lineS_set h hn x) (fun p h x=>lineS_par h x) hi (acc_text hb) hne
    exact absurd b2 hd
   ·simp[finB,hb]
def lnR (x:RS2) (i j:Nat):List AV:=[.int .i64 0,.sl i 0 x.1.length,.nils,.sl j 0 x.2.length,.bool false,.nils,.int .i64 0]
def lnQ (V:List (Nat×Nat)) (R:RS2×Bool) (r:AV) (L':List (Nat×Ob)):Prop:=∃ i j,(i,j)∈V∧r=.tup [.agg (lnR R.1 i j),.bool R.2]∧L'=[(i,kcs R.1.1),(j,kpt R.1.2)]
theorem sLineO (x:RS2) (l:List UInt8) (hl:l.length≤1000000) (h1:x.1.length≤1000000) (h2:x.2.length≤1000000) :
  ACall prog 193 [.agg (lnR x 1000 1001),.str l] [(1000,kcs x.1),(1001,kpt x.2)] (lnQ [(902,903)] (lineS x l)):=by
 have c1:=scutC l 32 (by omega)
 have hw:=qbi 32 l []
 simp only[List.length_nil,Nat.zero_add]at hw
 have key:ACall prog 193 [.agg (lnR x 1000 1001),.str l] [(1000,kcs x.1),(1001,kpt x.2)] (lnQ [(1000,1001),(1000,36),(76,1001)] (lineS x l)):=by
  obtain⟨R,hR⟩:∃ R,lineS x l=R:=⟨_,rfl⟩
  rw[hR]
  unfold lineS at hR
  refine acx func193 [(10,[zI 0,zI 1,zI 2,zI 3,zJ 4 [11] [],zI 5,zJ 6 [] [11],zI 7])] ntmps193 rfl rfl rfl ?_
  simp -implicitDefEqProofs [lnR]
  refine c1.call ?_
  by_cases n2:(cutR 32 l []).length=2
  ·obtain⟨a,b,hc⟩:=two_ex n2
   rw[hc]at hR hw
   simp only at hR
   have lb:=hw b (by simp)
   have c2:=sPtrReadC b (by omega)
   simp only[PT.row]at c2
   by_cases ha:a=[46]
   ·rw[if_pos ha]at hR
    subst hR
    simp -implicitDefEqProofs [hc,strR,ha]
    refine c2.call ?_
    simp -implicitDefEqProofs [kpt,PT.row]
    exact⟨by omega,[(1000,kcs x.1),(36,kpt (x.2++[(ptRd b).1]))],by simp[kpt,PT.row,qbh],1000,36,by simp,by simp[lnR],rfl⟩
   ·rw[if_neg ha]at hR
    subst hR
    simp -implicitDefEqProofs [hc,strR,ha]
    exact⟨[(1000,kcs x.1),(1001,kpt x.2)],by simp,1000,1001,by simp,rfl,rfl⟩
  ·by_cases n4:(cutR 32 l []).length=4
   ·obtain⟨a,b,c,d,hc⟩:∃ a b c d,cutR 32 l []=[a,b,c,d]:=by
     match hm:cutR 32 l [],n4 with
     | [a,b,c,d],_=>exact⟨a,b,c,d,rfl⟩
    rw[hc]at hR hw
    simp only at hR
    have lb:=hw b (by simp)
    have ld:=hw d (by simp)
    have n1:=snumC b (by omega)
    have c2:=sPtrReadC d (by omega)
    simp only[PT.row]at c2
    simp -implicitDefEqProofs [hc,strR]
    refine n1.call ?_
    simp -implicitDefEqProofs
    refine c2.call ?_
    simp -implicitDefEqProofs [PT.row]
    have hrow:∀ fr:List UInt8,CS.row (mkS a (snumB b).1 fr (ptRd d).1)=[.str a,.int .i64 (snumB b).1,.str fr,.int .i64 0,.int .i64 0,.int .i64 0,.int .i64 0,.int .i64 0,.int .i64 0,.int .i64 0,.int .i64 0,.int .i64 0,.int .i64 0,.int .i64 0,.int .i64 0,.int .i64 0,.int .i64 0,.int .i64 0,.int .i64 0,.int .i64 0,.int .i64 0,.int .i64 0,.int .i64 0,.int .i64 0,.int .i64 0,.int .i64 0,.int .i64 0,.int .i64 (ptRd d).1.pa,.int .i64 (ptRd d).1.ps,.int .i64 (ptRd d).1.pb,.bool false]:=fun fr=>by
     simp[CS.row,mkS,z8,zPT,PT.row,List.replicate]
    subst hR
    by_cases hq:c=[45]
    ·have hf:frR c=[]:=by unfold frR;rw[if_pos hq]
     rw[hf]
     simp -implicitDefEqProofs [hq,kcs]
     cases hk:(snumB b).2 with
     | false =>
      simp -implicitDefEqProofs
      exact⟨by omega,[(76,kcs (x.1++[mkS a (snumB b).1 [] (ptRd d).1])),(1001,kpt x.2)],by simp[kcs,hrow,qbh],76,1001,by simp,by simp[lnR],rfl⟩
     | true =>
      simp -implicitDefEqProofs
      exact⟨by omega,[(76,kcs (x.1++[mkS a (snumB b).1 [] (ptRd d).1])),(1001,kpt x.2)],by simp[kcs,hrow,qbh],76,1001,by simp,by simp[lnR],rfl⟩
    ·have hf:frR c=c:=by unfold frR;rw[if_neg hq]
     rw[hf]
     simp -implicitDefEqProofs [hq,kcs]
     cases hk:(snumB b).2 with
     | false =>
      simp -implicitDefEqProofs
      exact⟨by omega,[(76,kcs (x.1++[mkS a (snumB b).1 c (ptRd d).1])),(1001,kpt x.2)],by simp[kcs,hrow,qbh],76,1001,by simp,by simp[lnR],rfl⟩
     | true =>
      simp -implicitDefEqProofs
      exact⟨by omega,[(76,kcs (x.1++[mkS a (snumB b).1 c (ptRd d).1])),(1001,kpt x.2)],by simp[kcs,hrow,qbh],76,1001,by simp,by simp[lnR],rfl⟩
   ·have hx:R=(x,false):=by
     rw[← hR]
     split
     ·rename_i q;rw[q]at n2;simp at n2
     ·rename_i q;rw[q]at n4;simp at n4
     ·rfl
    subst hx
    simp -implicitDefEqProofs [strR,n2,n4,show ¬ ((cutR 32 l []).length:Int)=2 by omega,show ¬ ((cutR 32 l []).length:Int)=4 by omega]
    exact⟨[(1000,kcs x.1),(1001,kpt x.2)],by simp,1000,1001,by simp,rfl,rfl⟩
 refine key.can ?_
 rintro r L' ⟨i,j,hV,rfl,rfl⟩
 simp only[List.mem_cons,List.not_mem_nil,or_false,Prod.mk.injEq]at hV
 rcases hV with⟨rfl,rfl⟩ | ⟨rfl,rfl⟩ | ⟨rfl,rfl⟩
 ·exact⟨[(1000,902),(1001,903)],by simp,by simp,by simp,by simp,902,903,by simp,by simp[lnR],by simp[obOf]⟩
 ·exact⟨[(1000,902),(36,903)],by simp,by simp,by simp,by simp,902,903,by simp,by simp[lnR],by simp[obOf]⟩
 ·exact⟨[(76,902),(1001,903)],by simp,by simp,by simp,by simp,902,903,by simp,by simp[lnR],by simp[obOf]⟩
theorem cutR_cons (c:UInt8) (s:List UInt8):∃ h r,cutR c s []=h::r:=by
 cases hr:cutR c s []with
 | nil=>exact absurd hr (cutR_ne _ _ _)
 | cons h r=>exact⟨h,r,rfl⟩
theorem runL_some {f:RS2→List UInt8→RS2×Bool} {l:List UInt8} {r:List (List UInt8)} {x:RS2} (h:(f x l).2=true):runL f (l::r) x=runL f r (f x l).1:=by
 rw[runL,if_pos h]
theorem runL_none {f:RS2→List UInt8→RS2×Bool} {l:List UInt8} {r:List (List UInt8)} {x:RS2} (h:(f x l).2=false):runL f (l::r) x=none:=by
 rw[runL,if_neg (by simp[h])]
theorem coreL_row (x:RS2):(coreL x).row=[.int .i64 0,.lst 31 (x.1.map CS.row),.lst 3 [],.lst 3 (x.2.map PT.row),.bool false,.lst 1 [],.int .i64 0]:=rfl
def rdT (n:Nat) (x:RS2):Prop:=x.1.length≤n∧x.2.length≤n∧∀ s∈x.1,s.map.length=8∧s.name.length≤1000∧s.frm.length≤1000
theorem rdT_core {n:Nat} {x:RS2} (h:rdT n x) (hn:n≤100000):CoT (coreL x) :=
 ⟨by have:=h.1;simp only[coreL];omega,by simp[coreL],by have:=h.2.1;simp only[coreL];omega,by simp[coreL],fun s hs=>(h.2.2 s hs).1,fun s hs=>by have:=h.2.2 s hs;omega⟩
theorem frR_len (w:List UInt8):(frR w).length≤w.length:=by
 unfold frR
 split <;> simp
theorem rdT_app {n:Nat} {x:RS2} (h:rdT n x) {a c:List UInt8} (k:Int) (p:PT) (ha:a.length≤1000) (hc:c.length≤1000):rdT (n+1) (x.1++[mkS a k (frR c) p],x.2):=by
 have:=frR_len c
 refine⟨by have:=h.1;simp;omega,by have:=h.2.1;simp only;omega,fun s hs=>?_⟩
 simp only at hs
 rcases List.mem_append.1 hs with hs | hs
 ·exact h.2.2 s hs
 ·simp only[List.mem_singleton]at hs
  subst hs
  exact⟨rfl,ha,by simp only[mkS];omega⟩
theorem lineS_T {n:Nat} {x:RS2} (h:rdT n x) {l:List UInt8} (hl:l.length≤1000):rdT (n+1) (lineS x l).1:=by
 have hw:=qbi 32 l []
 simp only[List.length_nil,Nat.zero_add]at hw
 have h0:rdT (n+1) x:=⟨by have:=h.1;omega,by have:=h.2.1;omega,h.2.2⟩
 unfold lineS
 split
 ·split
  ·exact⟨by have:=h.1;simp only;omega,by have:=h.2.1;simp;omega,h.2.2⟩
  ·exact h0
 ·rename_i a b c d hc
  rw[hc]at hw
  have la:=hw a (by simp)
  have lc:=hw c (by simp)
  exact rdT_app h _ _ (by omega) (by omega)
 ·exact h0
theorem rt_head {t:List UInt8} {h:List UInt8} {r:List (List UInt8)} (hc:cutR 10 t []=h::r):rtRd t=if 420<t.length∨h≠rootW then (zK,false) else finB t (runL lineS r ([],[])):=by
 unfold rtRd
 rw[hc]
 simp
def rtQ (a b:Nat) (R:CO×Bool) (r:AV) (L':List (Nat×Ob)):Prop :=
 (R=(zK,false)∧r=.tup [.agg [.int .i64 0,.nils,.nils,.nils,.bool false,.nils,.int .i64 0],.bool false]∧L'=[]) ∨
 (∃ x:RS2,R=(coreL x,true)∧r=.tup [.agg (lnR x a b),.bool true]∧L'=[(a,kcs x.1),(b,kpt x.2)])
theorem sRootReadO (t:List UInt8) (hl:t.length≤1000000):ACall prog 107 [.str t] [] (rtQ 900 901 (rtRd t)):=by
 obtain⟨R,hR⟩:∃ R,rtRd t=R:=⟨_,rfl⟩
 rw[hR]
 have c1:=scutC t 10 (by omega)
 have hw:=qbi 10 t []
 have hnum:=cutR_num 10 t []
 simp only[List.length_nil,Nat.zero_add]at hw
 obtain⟨hd,ls,hc⟩:=cutR_cons 10 t
 rw[rt_head hc]at hR
 rw[hc]at hw hnum c1
 refine acx func107 [(8,[zJ 0 [4] [],zJ 1 [] [4],zJ 2 [] [4],zJ 3 [] [4],zJ 4 [] [4],⟨5,[],[],[9],[]⟩,zI 6,zI 7,zI 8,zJ 9 [] [4],zI 10,zI 11])] ntmps107 rfl rfl rfl ?_
 simp -implicitDefEqProofs
 refine c1.call ?_
 by_cases h1:420<t.length
 ·rw[if_pos (.inl h1)]at hR
  subst hR
  simp -implicitDefEqProofs [show(420:Int)<t.length by omega,h1,strR]
  exact⟨[],by simp,.inl ⟨rfl,rfl,rfl⟩⟩
 by_cases h2:hd=rootW
 ·rw[if_neg (by rintro(e | e);exact h1 e;exact e h2)]at hR
  have h2':hd=[114,111,111,116]:=h2
  simp -implicitDefEqProofs [show ¬ (420:Int)<t.length by omega,h1,strR,h2']
  refine ev_sw ((sw_pht 900 31 (by simp)).trans ((sw_impc 4 1 (sz:=7) (row:=[.int .i64 0,.nils,.nils,.nils,.bool false,.nils,.int .i64 0]) (by simp) (by simp) (impA_sl0 900 0)).trans
   ((sw_pht 901 3 (by simp)).trans (sw_impc 4 3 (sz:=7) (row:=[.int .i64 0,.sl 900 0 0,.nils,.nils,.bool false,.nils,.int .i64 0]) (by simp) (by simp) (impA_sl0 901 0))))) ?_
  refine ev_lo (X:=Nat×RS2) [0,2,3,4,5,6] [(2,2),(4,4),(900,900),(901,901)] (fun x=>[(6,.int .i64 (x.1+1))]) (fun x=>[(2,⟨7,[[.int .i64 0,.nils,.nils,.nils,.bool false,.nils,.int .i64 0]]⟩),(4,⟨7,[lnR x.2 900 901]⟩),(900,kcs x.2.1),(901,kpt x.2.2)]) (fun x=>ls.length-x.1)
   (fun x=>x.1≤ls.length∧rdT x.1 x.2∧finB t (runL lineS (ls.drop x.1) x.2)=R) (0,([],[])) ⟨by omega,⟨by simp,by simp,by simp⟩,hR⟩ ?_ (he:=by simp[obOf,lnR,kcs,kpt])
  rintro⟨i,x⟩ ⟨hi,hx,hd2⟩
  simp only at hi hx hd2
  cases hr:ls.drop i with
  | nil =>
   have:=dropn hr
   have hie:i=ls.length:=by omega
   subst hie
   rw[hr]at hd2
   simp only[runL,finB]at hd2
   have hT:=rdT_core hx (by simp at hnum;omega)
   have c2:=sRootC (coreL x) hT
   have c3:=sNamesA (coreL x) (by have:=hx.1;simp only[coreL];simp at hnum;omega) hT.m8
   have c4:=cv_of (bookOkC ((coreL x).sets.map csB) (by have:=hx.1;simp[coreL];simp at hnum;omega) (fun b hb=>by
    obtain⟨s,hs,rfl⟩:=List.mem_map.1 hb
    simp[csB]) (fun b hb=>by
    obtain⟨s,hs,rfl⟩:=List.mem_map.1 hb
    have:=hx.2.2 s hs
    simp[csB]
    omega)) (hca:=by simp[bk])
   rw[coreL_row]at c2 c3
   simp -implicitDefEqProofs [lnR]
   refine c2.view (by simp[vwOk,mtA,kcs,kpt,qbh,cs_cl]) ?_
   by_cases q1:qch (coreL x)=t
   ·simp -implicitDefEqProofs [q1]
    refine callA_vw [] (by kernel_rfl) c3 (by simp[vwOk,mtA,kcs,kpt,qbh,cs_cl]) (by simp) trivial (by simp) (by simp) ?_
    rintro r L' ⟨rfl,rfl⟩
    refine⟨by simp[noL],by simp[bkOb,noL_bs],[(900,47)],⟨by simp,by simp,by simp,by simp,by simp⟩,?_⟩
    simp only[qan]
    have htk:List.take x.1.length (List.map (BS.row ∘ csB) x.1)=List.map (BS.row ∘ csB) x.1:=List.take_of_length_le (by simp)
    simp only[bk,coreL,List.map_map]at c4
    simp -implicitDefEqProofs
    refine c4.view (by simp[vwOk,mtA,bkOb,coreL,htk]) ?_
    cases hb:qbb (List.map csB x.1)with
    | false =>
     have ha:accB t x=false:=by simp[accB,hb]
     rw[if_neg (by simp[ha])]at hd2
     subst hd2
     simp -implicitDefEqProofs
     exact⟨[],by simp,.inl ⟨rfl,rfl,rfl⟩⟩
    | true =>
     simp -implicitDefEqProofs
     by_cases q8:x.2.length≤8
     ·have ha:accB t x=true:=by simp[accB,hb,q8,q1]
      rw[if_pos ha]at hd2
      subst hd2
      simp -implicitDefEqProofs [show ¬ (8:Int)<x.2.length by omega,show ¬ 8<x.2.length by omega,q8,show(x.2.length:Int)≤8 by omega]
      exact⟨[(900,kcs x.1),(901,kpt x.2)],by simp[obOf],.inr ⟨x,rfl,by simp[lnR],rfl⟩⟩
     ·have ha:accB t x=false:=by simp[accB,q8]
      rw[if_neg (by simp[ha])]at hd2
      subst hd2
      simp -implicitDefEqProofs [show(8:Int)<x.2.length by omega,show 8<x.2.length by omega,q8,show ¬ (x.2.length:Int)≤8 by omega]
      exact⟨[],by simp,.inl ⟨rfl,rfl,rfl⟩⟩
   ·have ha:accB t x=false:=by simp[accB,q1]
    rw[if_neg (by simp[ha])]at hd2
    subst hd2
    simp -implicitDefEqProofs [q1]
    exact⟨[],by simp,.inl ⟨rfl,rfl,rfl⟩⟩
  | cons l r =>
   obtain⟨g1,e0,e1,g3⟩:=dropc hr
   have hwl:=hw l (by simp[List.mem_of_getElem? e1])
   have c2:=sLineO x l (by omega) (by have:=hx.1;simp at hnum;omega) (by have:=hx.2.1;simp at hnum;omega)
   have hT:=lineS_T hx (l:=l) (by omega)
   have e2:=i64w ((i:Int)+1+1) (by simp at hnum;omega) (by simp at hnum;omega)
   rw[hr]at hd2
   simp only[lnR]at c2
   simp -implicitDefEqProofs [lnR,g1,e0,e1,strR]
   refine⟨by omega,?_⟩
   refine qaf [(1000,.whole 900),(1001,.whole 901)] (by kernel_rfl) c2 (by simp) (by simp) ⟨⟨kcs x.1,by simp,rfl,qah rfl (clR_kcs _)⟩,⟨kpt x.2,by simp,rfl,qah rfl (clR_kpt _)⟩,trivial⟩ (by simp) (by simp) ?_
   rintro r' L' ⟨j1,j2,hV,rfl,rfl⟩
   simp only[List.mem_cons,List.not_mem_nil,or_false,Prod.mk.injEq]at hV
   obtain⟨rfl,rfl⟩:=hV
   refine⟨[(902,902),(903,903)],⟨by simp,by simp,by simp,by simp,by simp⟩,?_⟩
   simp only[qan]
   cases hk:(lineS x l).2 with
   | false =>
    rw[runL_none hk]at hd2
    simp only[finB]at hd2
    subst hd2
    simp -implicitDefEqProofs [lnR]
    exact⟨[],by simp,.inl ⟨rfl,rfl,rfl⟩⟩
   | true =>
    rw[runL_some hk]at hd2
    simp -implicitDefEqProofs [lnR]
    refine nx (i+1,(lineS x l).1) [(2,2),(4,4),(902,900),(903,901)] ⟨by simp only;omega,hT,by simp only[g3];exact hd2⟩ (by simp only;omega) (h4:=?_)
    simp[obOf,e2,lnR]
 ·rw[if_pos (.inr h2)]at hR
  subst hR
  have h2':¬ hd=[114,111,111,116]:=h2
  simp -implicitDefEqProofs [show ¬ (420:Int)<t.length by omega,h1,strR,h2']
  exact⟨[],by simp,.inl ⟨rfl,rfl,rfl⟩⟩
def rlL (x:RS2) (i j:Nat):List (Nat×Ob):=[(1000,⟨7,[lnR x i j]⟩),(i,kcs x.1),(j,kpt x.2)]
def rlQ (V:List (Nat×Nat)) (R:RS2×Bool) (r:AV) (L':List (Nat×Ob)):Prop:=∃ i j,(i,j)∈V∧r=.bool R.2∧L'=rlL R.1 i j
theorem last_ex {l:List (List UInt8)} (h:l≠[]):∃ w,l[l.length-1]?=some w∧w∈l:=by
 refine⟨l[l.length-1]'(by have:=List.length_pos_iff.2 h;omega),List.getElem?_eq_getElem _,List.getElem_mem _⟩
theorem lineI_n {x:RS2} {l:List UInt8} (h2:(cutR 32 l []).length≠2) (h4:(cutR 32 l []).length≠4):lineI x l=(x,false):=by
 unfold lineI
 split
 ·rename_i q;rw[q]at h2;simp at h2
 ·rename_i q;rw[q]at h4;simp at h4
 ·rfl
theorem iLineO (x:RS2) (l:List UInt8) (hl:l.length≤1000000) (h1:x.1.length≤1000000) (h2:x.2.length≤1000000) :
  ACall prog 212 [.ptr 1000 0 0,.str l] (rlL x 1001 1002) (rlQ [(902,903)] (lineI x l)):=by
 have c1:=splitC l 32 (by omega)
 have hw:=qbi 32 l []
 simp only[List.length_nil,Nat.zero_add]at hw
 have key:ACall prog 212 [.ptr 1000 0 0,.str l] (rlL x 1001 1002) (rlQ [(1001,1002),(1001,43),(75,1002)] (lineI x l)):=by
  simp only[rlL]
  by_cases n2:(cutR 32 l []).length=2
  ·obtain⟨R,hR⟩:∃ R,lineI x l=R:=⟨_,rfl⟩
   rw[hR]
   unfold lineI at hR
   obtain⟨a,b,hc⟩:=two_ex n2
   rw[hc]at hR hw
   simp only at hR
   have lb:=hw b (by simp)
   have c2:=iPtrReadC b (by omega)
   simp only[PT.row]at c2
   refine acx func212 [(6,[zI 0,zI 1,zI 2,zI 3,zJ 4 [1000] [],zJ 5 [6] [1000],zJ 6 [] [1000],zI 7,zI 8,zI 9,zI 10]),(14,[zI 0,zI 1,zI 2,zI 3,zJ 4 [1000] [],zJ 5 [] [1000],zJ 6 [] [1000],zJ 7 [] [1000],zJ 8 [] [1000],zJ 9 [] [1000],zJ 10 [6] [1000],zJ 11 [] [1000],zJ 12 [] [1000],zI 13,zI 14,zI 15,zI 16])] ntmps212 rfl rfl rfl ?_
   simp -implicitDefEqProofs [lnR]
   refine c1.call ?_
   simp -implicitDefEqProofs [hc,strR]
   refine c2.call ?_
   cases hk:(ptRd b).2 with
   | false =>
    rw[if_neg (by simp[hk])]at hR
    subst hR
    simp -implicitDefEqProofs
    exact⟨rlL x 1001 1002,by simp[rlL,lnR],1001,1002,by simp,rfl,rfl⟩
   | true =>
    by_cases ha:a=[46]
    ·rw[if_pos ⟨hk,ha⟩]at hR
     subst hR
     simp -implicitDefEqProofs [ha,kpt,PT.row]
     exact⟨by omega,rlL (x.1,x.2++[(ptRd b).1]) 1001 43,by simp[rlL,lnR,kpt,PT.row,qbh],1001,43,by simp,rfl,rfl⟩
    ·rw[if_neg fun e=>ha e.2]at hR
     subst hR
     simp -implicitDefEqProofs [ha]
     exact⟨rlL x 1001 1002,by simp[rlL,lnR],1001,1002,by simp,rfl,rfl⟩
  ·by_cases n4:(cutR 32 l []).length=4
   ·obtain⟨R,hR⟩:∃ R,lineI x l=R:=⟨_,rfl⟩
    rw[hR]
    unfold lineI at hR
    obtain⟨a,b,c,d,hc⟩:∃ a b c d,cutR 32 l []=[a,b,c,d]:=by
     match hm:cutR 32 l [],n4 with
     | [a,b,c,d],_=>exact⟨a,b,c,d,rfl⟩
    rw[hc]at hR hw
    simp only at hR
    have lb:=hw b (by simp)
    have ld:=hw d (by simp)
    have n1:=atoiC b (by omega)
    have c2:=iPtrReadC d (by omega)
    simp only[PT.row]at c2
    refine acx func212 [(6,[zI 0,zI 1,zI 2,zI 3,zJ 4 [1000] [],zJ 5 [6] [1000],zJ 6 [] [1000],zI 7,zI 8,zI 9,zI 10]),(14,[zI 0,zI 1,zI 2,zI 3,zJ 4 [1000] [],zJ 5 [] [1000],zJ 6 [] [1000],zJ 7 [] [1000],zJ 8 [] [1000],zJ 9 [] [1000],zJ 10 [6] [1000],zJ 11 [] [1000],zJ 12 [] [1000],zI 13,zI 14,zI 15,zI 16])] ntmps212 rfl rfl rfl ?_
    simp -implicitDefEqProofs [lnR]
    refine c1.call ?_
    simp -implicitDefEqProofs [hc,strR]
    refine c2.call ?_
    cases hk:(ptRd d).2 with
    | false =>
     rw[if_neg (by simp[hk])]at hR
     subst hR
     simp -implicitDefEqProofs
     exact⟨rlL x 1001 1002,by simp[rlL,lnR],1001,1002,by simp,rfl,rfl⟩
    | true =>
     rw[if_pos hk]at hR
     simp -implicitDefEqProofs
     refine n1.call ?_
     simp -implicitDefEqProofs [PT.row]
     have hrow:∀ fr:List UInt8,CS.row (mkS a (atoiV b) fr (ptRd d).1)=[.str a,.int .i64 (atoiV b),.str fr,.int .i64 0,.int .i64 0,.int .i64 0,.int .i64 0,.int .i64 0,.int .i64 0,.int .i64 0,.int .i64 0,.int .i64 0,.int .i64 0,.int .i64 0,.int .i64 0,.int .i64 0,.int .i64 0,.int .i64 0,.int .i64 0,.int .i64 0,.int .i64 0,.int .i64 0,.int .i64 0,.int .i64 0,.int .i64 0,.int .i64 0,.int .i64 0,.int .i64 (ptRd d).1.pa,.int .i64 (ptRd d).1.ps,.int .i64 (ptRd d).1.pb,.bool false]:=fun fr=>by
      simp[CS.row,mkS,z8,zPT,PT.row,List.replicate]
     subst hR
     by_cases hq:c=[45]
     ·have hf:frR c=[]:=by unfold frR;rw[if_pos hq]
      rw[hf]
      cases hk2:atoiK b with
      | false =>
       simp -implicitDefEqProofs [hq,kcs,errA]
       exact⟨by omega,rlL (x.1++[mkS a (atoiV b) [] (ptRd d).1],x.2) 75 1002,by simp[rlL,lnR,kcs,hrow,qbh],75,1002,by simp,rfl,rfl⟩
      | true =>
       simp -implicitDefEqProofs [hq,kcs,errA]
       exact⟨by omega,rlL (x.1++[mkS a (atoiV b) [] (ptRd d).1],x.2) 75 1002,by simp[rlL,lnR,kcs,hrow,qbh],75,1002,by simp,rfl,rfl⟩
     ·have hf:frR c=c:=by unfold frR;rw[if_neg hq]
      rw[hf]
      cases hk2:atoiK b with
      | false =>
       simp -implicitDefEqProofs [hq,kcs,errA]
       exact⟨by omega,rlL (x.1++[mkS a (atoiV b) c (ptRd d).1],x.2) 75 1002,by simp[rlL,lnR,kcs,hrow,qbh],75,1002,by simp,rfl,rfl⟩
      | true =>
       simp -implicitDefEqProofs [hq,kcs,errA]
       exact⟨by omega,rlL (x.1++[mkS a (atoiV b) c (ptRd d).1],x.2) 75 1002,by simp[rlL,lnR,kcs,hrow,qbh],75,1002,by simp,rfl,rfl⟩
   ·rw[lineI_n n2 n4]
    obtain⟨w,w1,w2⟩:=last_ex (cutR_ne 32 l [])
    have c2:=iPtrReadC w (by have:=hw w w2;omega)
    have hp:=cutR_pos 32 l []
    have hnum:=cutR_num 32 l []
    have e1:=i64w (((cutR 32 l []).length:Int)-1) (by omega) (by omega)
    have e2:(((cutR 32 l []).length:Int)-1).toNat=(cutR 32 l []).length-1:=by omega
    have w0:(cutR 32 l [])[(cutR 32 l []).length-1]'(by omega)=w:=(List.getElem?_eq_some_iff.1 w1).2
    refine acx func212 [(6,[zI 0,zI 1,zI 2,zI 3,zJ 4 [1000] [],zJ 5 [6] [1000],zJ 6 [] [1000],zI 7,zI 8,zI 9,zI 10]),(14,[zI 0,zI 1,zI 2,zI 3,zJ 4 [1000] [],zJ 5 [] [1000],zJ 6 [] [1000],zJ 7 [] [1000],zJ 8 [] [1000],zJ 9 [] [1000],zJ 10 [6] [1000],zJ 11 [] [1000],zJ 12 [] [1000],zI 13,zI 14,zI 15,zI 16])] ntmps212 rfl rfl rfl ?_
    simp -implicitDefEqProofs [lnR]
    refine c1.call ?_
    simp -implicitDefEqProofs [strR,e1,e2,w0,w1]
    refine⟨⟨by omega,by omega⟩,?_⟩
    refine c2.call ?_
    cases hk:(ptRd w).2 with
    | false =>
     simp -implicitDefEqProofs
     exact⟨rlL x 1001 1002,by simp[rlL,lnR],1001,1002,by simp,rfl,rfl⟩
    | true =>
     simp -implicitDefEqProofs [n2,n4,show ¬ ((cutR 32 l []).length:Int)=2 by omega,show ¬ ((cutR 32 l []).length:Int)=4 by omega]
     exact⟨rlL x 1001 1002,by simp[rlL,lnR],1001,1002,by simp,rfl,rfl⟩
 refine key.can ?_
 rintro r L' ⟨i,j,hV,rfl,rfl⟩
 simp only[List.mem_cons,List.not_mem_nil,or_false,Prod.mk.injEq]at hV
 rcases hV with⟨rfl,rfl⟩ | ⟨rfl,rfl⟩ | ⟨rfl,rfl⟩
 ·exact⟨[(1000,1000),(1001,902),(1002,903)],by simp[rlL],by simp,by simp[rlL],by simp,902,903,by simp,by simp,by simp[obOf,rlL,lnR]⟩
 ·exact⟨[(1000,1000),(1001,902),(43,903)],by simp[rlL],by simp,by simp[rlL],by simp,902,903,by simp,by simp,by simp[obOf,rlL,lnR]⟩
 ·exact⟨[(1000,1000),(75,902),(1002,903)],by simp[rlL],by simp,by simp[rlL],by simp,902,903,by simp,by simp,by simp[obOf,rlL,lnR]⟩
theorem lineI_T {n:Nat} {x:RS2} (h:rdT n x) {l:List UInt8} (hl:l.length≤1000):rdT (n+1) (lineI x l).1:=by
 have hw:=qbi 32 l []
 simp only[List.length_nil,Nat.zero_add]at hw
 have h0:rdT (n+1) x:=⟨by have:=h.1;omega,by have:=h.2.1;omega,h.2.2⟩
 unfold lineI
 split
 ·split
  ·exact⟨by have:=h.1;simp only;omega,by have:=h.2.1;simp;omega,h.2.2⟩
  ·exact h0
 ·rename_i a b c d hc
  rw[hc]at hw
  have la:=hw a (by simp)
  have lc:=hw c (by simp)
  split
  ·exact rdT_app h _ _ (by omega) (by omega)
  ·exact h0
 ·exact h0
theorem iRootReadO (t:List UInt8) (hl:t.length≤1000000):ACall prog 118 [.str t] [] (rtQ 900 901 (rtRd t)):=by
 obtain⟨R,hR⟩:∃ R,rtRd t=R:=⟨_,rfl⟩
 rw[hR]
 have c1:=splitC t 10 (by omega)
 have hw:=qbi 10 t []
 have hnum:=cutR_num 10 t []
 simp only[List.length_nil,Nat.zero_add]at hw
 obtain⟨hd,ls,hc⟩:=cutR_cons 10 t
 refine acx func118 [] ntmps118 rfl rfl rfl ?_
 by_cases h1:420<t.length
 ·have:R=(zK,false):=by
   rw[← hR]
   unfold rtRd
   rw[if_pos (.inl h1)]
  subst this
  simp -implicitDefEqProofs [show(420:Int)<t.length by omega,h1]
  exact⟨[],by simp,.inl ⟨rfl,rfl,rfl⟩⟩
 rw[rtRd_i h1,hc,List.tail_cons]at hR
 rw[hc]at hw hnum c1
 simp -implicitDefEqProofs [show ¬ (420:Int)<t.length by omega,h1]
 refine c1.call ?_
 simp -implicitDefEqProofs [strR]
 refine ev_sw ((sw_pht 900 31 (by simp)).trans ((sw_impc 5 1 (sz:=7) (row:=[.int .i64 0,.nils,.nils,.nils,.bool false,.nils,.int .i64 0]) (by simp) (by simp) (impA_sl0 900 0)).trans
   ((sw_pht 901 3 (by simp)).trans (sw_impc 5 3 (sz:=7) (row:=[.int .i64 0,.sl 900 0 0,.nils,.nils,.bool false,.nils,.int .i64 0]) (by simp) (by simp) (impA_sl0 901 0))))) ?_
 refine ev_lo (X:=Nat×RS2) [0,2,3,5,15,16,17] [(2,2),(5,5),(900,900),(901,901)] (fun x=>[(17,.int .i64 x.1)]) (fun x=>[(2,⟨7,[[.int .i64 0,.nils,.nils,.nils,.bool false,.nils,.int .i64 0]]⟩),(5,⟨7,[lnR x.2 900 901]⟩),(900,kcs x.2.1),(901,kpt x.2.2)]) (fun x=>ls.length-x.1)
  (fun x=>x.1≤ls.length∧rdT x.1 x.2∧finB t (runL lineI (ls.drop x.1) x.2)=R) (0,([],[])) ⟨by omega,⟨by simp,by simp,by simp⟩,hR⟩ ?_ (he:=by simp[obOf,lnR,kcs,kpt])
 rintro⟨i,x⟩ ⟨hi,hx,hd2⟩
 simp only at hi hx hd2
 cases hr:ls.drop i with
 | nil =>
  have:=dropn hr
  have hie:i=ls.length:=by omega
  subst hie
  rw[hr]at hd2
  simp only[runL,finB]at hd2
  have hT:=rdT_core hx (by simp at hnum;omega)
  have c2:=iRootC (coreL x) hT
  have c3:=frameA (coreL x) (by have:=hx.1;simp only[coreL];simp at hnum;omega) hT.m8
  have c4:=cv_of (ok_eq ((coreL x).sets.map csB) ▸ ibookOkC ((coreL x).sets.map csB) (by have:=hx.1;simp[coreL];simp at hnum;omega) (fun b hb=>by
   obtain⟨s,hs,rfl⟩:=List.mem_map.1 hb
   simp[csB]) (fun b hb=>by
   obtain⟨s,hs,rfl⟩:=List.mem_map.1 hb
   have:=hx.2.2 s hs
   simp[csB]
   omega)) (hca:=by simp[bk])
  rw[coreL_row]at c2 c3
  by_cases q8:x.2.length≤8
  ·simp -implicitDefEqProofs [lnR,show ¬ (8:Int)<x.2.length by omega,show ¬ 8<x.2.length by omega,q8,show(x.2.length:Int)≤8 by omega]
   refine callA_vw [] (by kernel_rfl) c3 (by simp[vwOk,mtA,kcs,kpt,qbh,cs_cl]) (by simp) trivial (by simp) (by simp) ?_
   rintro r L' ⟨rfl,rfl⟩
   refine⟨by simp[noL],by simp[bkOb,noL_bs],[(900,32)],⟨by simp,by simp,by simp,by simp,by simp⟩,?_⟩
   simp only[qan]
   have htk:List.take x.1.length (List.map (BS.row ∘ csB) x.1)=List.map (BS.row ∘ csB) x.1:=List.take_of_length_le (by simp)
   simp only[bk,coreL,List.map_map]at c4
   simp -implicitDefEqProofs
   refine c4.view (by simp[vwOk,mtA,bkOb,coreL,htk]) ?_
   cases hb:qbb (List.map csB x.1)with
   | false =>
    have ha:accB t x=false:=by simp[accB,hb]
    rw[if_neg (by simp[ha])]at hd2
    subst hd2
    simp -implicitDefEqProofs
    exact⟨[],by simp,.inl ⟨rfl,rfl,rfl⟩⟩
   | true =>
    simp -implicitDefEqProofs
    refine c2.view (by simp[vwOk,mtA,kcs,kpt,qbh,cs_cl]) ?_
    by_cases q1:qch (coreL x)=t
    ·have ha:accB t x=true:=by simp[accB,hb,q8,q1]
     rw[if_pos ha]at hd2
     subst hd2
     simp -implicitDefEqProofs [q1]
     exact⟨[(900,kcs x.1),(901,kpt x.2)],by simp[obOf],.inr ⟨x,rfl,by simp[lnR],rfl⟩⟩
    ·have ha:accB t x=false:=by simp[accB,q1]
     rw[if_neg (by simp[ha])]at hd2
     subst hd2
     simp -implicitDefEqProofs [q1]
     exact⟨[],by simp,.inl ⟨rfl,rfl,rfl⟩⟩
  ·have ha:accB t x=false:=by simp[accB,q8]
   rw[if_neg (by simp[ha])]at hd2
   subst hd2
   simp -implicitDefEqProofs [lnR,show(8:Int)<x.2.length by omega,show 8<x.2.length by omega,q8,show ¬ (x.2.length:Int)≤8 by omega]
   exact⟨[],by simp,.inl ⟨rfl,rfl,rfl⟩⟩
 | cons l r =>
  obtain⟨g1,e0,e1,g3⟩:=dropc hr
  have hwl:=hw l (by simp[List.mem_of_getElem? e1])
  have c2:=iLineO x l (by omega) (by have:=hx.1;simp at hnum;omega) (by have:=hx.2.1;simp at hnum;omega)
  have hT:=lineI_T hx (l:=l) (by omega)
  have e2:=i64w ((i:Int)+1) (by simp at hnum;omega) (by simp at hnum;omega)
  rw[hr]at hd2
  simp only[rlL,lnR]at c2
  simp -implicitDefEqProofs [lnR,g1,e0,e1,strR]
  refine qaf [(1000,.whole 5),(1001,.whole 900),(1002,.whole 901)] (by kernel_rfl) c2 (by simp) (by simp) (by simp;exact⟨.inr ⟨_,_,rfl,rfl,by simp⟩,qah rfl (clR_kcs _),qah rfl (clR_kpt _)⟩) (by simp) (by simp) ?_
  rintro r' L' ⟨j1,j2,hV,rfl,rfl⟩
  simp only[List.mem_cons,List.not_mem_nil,or_false,Prod.mk.injEq]at hV
  obtain⟨rfl,rfl⟩:=hV
  refine⟨[(902,902),(903,903)],⟨by simp[rlL],by simp,by simp,by simp[rlL],by simp[rlL]⟩,?_⟩
  simp only[qan]
  cases hk:(lineI x l).2 with
  | false =>
   rw[runL_none hk]at hd2
   simp only[finB]at hd2
   subst hd2
   simp -implicitDefEqProofs [rlL,lnR]
   exact⟨[],by simp,.inl ⟨rfl,rfl,rfl⟩⟩
  | true =>
   rw[runL_some hk]at hd2
   simp -implicitDefEqProofs [rlL,lnR]
   refine nx (i+1,(lineI x l).1) [(2,2),(5,5),(902,900),(903,901)] ⟨by simp only;omega,hT,by simp only[g3];exact hd2⟩ (by simp only;omega) (h4:=?_)
   simp[obOf,e2,lnR]
theorem iReadC (d:DK) (h:DkT d) (side at':Int):CV prog 124 [.agg d.row,.int .i64 side,.int .i64 at'] (.tup [.str (qbo d side at').1,.bool (qbo d side at').2]):=by
 have c1:=iDiskOkC d h
 have c2:=iSectorC d h side at'
 have hse:qbt d side at' []=secB d.s0.length side at':=by simp[qbt,secB]
 unfold qbo
 rw[hse]
 simp only[DK.row]at c1 c2
 refine cvx func124 [] ntmps124 rfl rfl rfl ?_ (hca:=by simp[DK.row])
 simp -implicitDefEqProofs [DK.row]
 refine c1.call ?_
 cases g1:dOkB d with
 | false=>simp -implicitDefEqProofs
 | true =>
  simp -implicitDefEqProofs
  refine c2.call ?_
  cases g2:secB d.s0.length side at' with
  | false=>simp -implicitDefEqProofs
  | true =>
   obtain⟨n1,n2,n3⟩:=thereB_iff.1 (hse.trans g2)
   have c3:=iTextC d h side at' n1 n2 (dOk_len g1).2.2.1
   simp only[DK.row]at c3
   simp -implicitDefEqProofs
   refine c3.call ?_
   simp -implicitDefEqProofs
theorem dRead_len (d:DK) (side at':Int):(qbo d side at').1.length≤420:=by
 unfold qbo
 split
 ·rename_i h
  simp only[Bool.and_eq_true]at h
  exact readB_len h.1 side at'
 ·simp
def rbStep (d:DK) (b:Int×PT) (at' side:Int):Int×PT:=if (ubRd (qbo d side at').1).2=true∧b.1<(ubRd (qbo d side at').1).1.1 then (ubRd (qbo d side at').1).1 else b
def rbN (d:DK):Nat→Int×PT
 | 0=>(0,zPT)
 | i+1=>rbStep d (rbStep d (rbN d i) (i+1) 0) (i+1) 1
def rbI (d:DK) (i j:Nat):Int×PT:=if j=0 then rbN d i else if j=1 then rbStep d (rbN d i) (i+1) 0 else rbN d (i+1)
theorem rbI_step (d:DK) (i j:Nat) (hj:j<2):rbI d i (j+1)=rbStep d (rbI d i j) ((i:Int)+1) j:=by
 have:j=0∨j=1:=by omega
 rcases this with rfl | rfl
 ·rfl
 ·rfl
def rbB (d:DK):Int×PT:=rbN d 4
theorem sBestC (d:DK) (h:DkT d):CV prog 105 [.agg d.row] (.tup [.int .i64 (rbB d).1,.agg (rbB d).2.row,.bool (decide (0<(rbB d).1))]):=by
 refine cvx func105 [(14,[zI 0,zJ 1 [6] [],zJ 2 [] [6],zJ 3 [] [6],zJ 4 [] [6],zI 5,zI 6])] ntmps105 rfl rfl rfl ?_ (hca:=by simp[DK.row]) (hcv:=by simp[PT.row])
 simp -implicitDefEqProofs [DK.row]
 refine ev_lo (X:=Nat) [1,2,3,4,5,6,7] [(1,1),(3,3),(6,6)] (fun i=>[(5,.int .i64 (rbN d i).1),(7,.int .i64 (i+1))]) (fun i=>[(1,⟨3,[d.row]⟩),(3,⟨3,[zPT.row]⟩),(6,⟨3,[(rbN d i).2.row]⟩)]) (fun i=>4-i) (fun i=>i≤4) 0 (by simp) ?_ (he:=by simp[obOf,DK.row,zPT,PT.row,rbN])
 rintro i hi
 by_cases h4:i<4
 ·have e2:=i64w ((i:Int)+1+1) (by omega) (by omega)
  simp -implicitDefEqProofs [show(i:Int)+1<5 by omega,DK.row,PT.row]
  refine ev_lo (X:=Nat) [1,2,3,4,5,6,7,8] [(1,1),(3,3),(6,6)] (fun j=>[(5,.int .i64 (rbI d i j).1),(8,.int .i64 j)]) (fun j=>[(1,⟨3,[d.row]⟩),(3,⟨3,[zPT.row]⟩),(6,⟨3,[(rbI d i j).2.row]⟩)]) (fun j=>2-j) (fun j=>j≤2) 0 (by simp) ?_ (he:=by simp[obOf,DK.row,zPT,PT.row,rbI])
  rintro j hj
  by_cases h2:j<2
  ·have e3:=i64w ((j:Int)+1) (by omega) (by omega)
   have c1:=sReadC d h j ((i:Int)+1)
   have hl:=dRead_len d j ((i:Int)+1)
   have c2:=sUberReadC (qbo d j ((i:Int)+1)).1 (by omega)
   have hst:=rbI_step d i j h2
   unfold rbStep at hst
   simp only[DK.row]at c1
   simp only[PT.row]at c2
   simp -implicitDefEqProofs [show(j:Int)<2 by omega,h2,DK.row,PT.row]
   refine c1.call ?_
   simp -implicitDefEqProofs
   refine c2.call ?_
   generalize ubRd (qbo d j ((i:Int)+1)).1=u at *
   obtain⟨⟨un,up⟩,uk⟩:=u
   simp only at hst
   cases uk with
   | false =>
    rw[if_neg (by simp)]at hst
    simp -implicitDefEqProofs [PT.row]
    refine nx (j+1) [(1,1),(3,3),(6,6)] (by omega) (h4:=?_)
    simp[obOf,e3,hst,DK.row,zPT,PT.row]
   | true =>
    by_cases q:(rbI d i j).1<un
    ·rw[if_pos ⟨rfl,q⟩]at hst
     simp -implicitDefEqProofs [q,PT.row]
     refine nx (j+1) [(1,1),(3,3),(6,6)] (by omega) (h4:=?_)
     simp[obOf,e3,hst,DK.row,zPT,PT.row]
    ·rw[if_neg fun e=>q e.2]at hst
     simp -implicitDefEqProofs [q,PT.row]
     refine nx (j+1) [(1,1),(3,3),(6,6)] (by omega) (h4:=?_)
     simp[obOf,e3,hst,DK.row,zPT,PT.row]
  ·have hje:j=2:=by omega
   subst hje
   simp -implicitDefEqProofs [DK.row,PT.row]
   refine nx (i+1) [(1,1),(3,3),(6,6)] (by omega) (h4:=?_)
   simp[obOf,e2,rbI,DK.row,zPT,PT.row]
 ·have hie:i=4:=by omega
  subst hie
  simp -implicitDefEqProofs [DK.row,PT.row,rbB]
  first
   | rfl
   | congr
theorem iBestC (d:DK) (h:DkT d):CV prog 115 [.agg d.row] (.tup [.int .i64 (rbB d).1,.agg (rbB d).2.row,.bool (decide (0<(rbB d).1))]):=by
 refine cvx func115 [(11,[zI 0,zJ 1 [12] [],zJ 2 [] [12],zI 3]),(14,[zI 0,zJ 1 [6] [],zJ 2 [] [6],zJ 3 [] [6],zJ 4 [] [6],zI 5,zI 6])] ntmps115 rfl rfl rfl ?_ (hca:=by simp[DK.row]) (hcv:=by simp[PT.row])
 simp -implicitDefEqProofs [DK.row]
 refine ev_lo (X:=Nat) [1,2,3,4,5,6,15] [(1,1),(3,3),(6,6)] (fun i=>[(5,.int .i64 (rbN d i).1),(15,.int .i64 i)]) (fun i=>[(1,⟨3,[d.row]⟩),(3,⟨3,[zPT.row]⟩),(6,⟨3,[(rbN d i).2.row]⟩)]) (fun i=>4-i) (fun i=>i≤4) 0 (by simp) ?_ (he:=by simp[obOf,DK.row,zPT,PT.row,rbN])
 rintro i hi
 by_cases h4:i<4
 ·have e2:=i64w ((i:Int)+1) (by omega) (by omega)
  have e4:IntKind.i64.wrap (1+(i:Int))=(i:Int)+1:=by rw[i64w _ (by omega) (by omega)];omega
  simp -implicitDefEqProofs [show(i:Int)<4 by omega,h4,DK.row,PT.row]
  refine ev_lo (X:=Nat) [1,2,3,4,5,6,7,15,18] [(1,1),(3,3),(6,6)] (fun j=>[(5,.int .i64 (rbI d i j).1),(18,.int .i64 j)]) (fun j=>[(1,⟨3,[d.row]⟩),(3,⟨3,[zPT.row]⟩),(6,⟨3,[(rbI d i j).2.row]⟩)]) (fun j=>2-j) (fun j=>j≤2) 0 (by simp) ?_ (he:=by simp[obOf,DK.row,zPT,PT.row,rbI])
  rintro j hj
  by_cases h2:j<2
  ·have e3:=i64w ((j:Int)+1) (by omega) (by omega)
   have c1:=iReadC d h j ((i:Int)+1)
   have hl:=dRead_len d j ((i:Int)+1)
   have c2:=iUberReadC (qbo d j ((i:Int)+1)).1 (by omega)
   have hst:=rbI_step d i j h2
   unfold rbStep at hst
   simp only[DK.row]at c1
   simp only[PT.row]at c2
   simp -implicitDefEqProofs [show(j:Int)<2 by omega,h2,e4,DK.row,PT.row]
   refine c1.call ?_
   simp -implicitDefEqProofs
   refine c2.call ?_
   generalize ubRd (qbo d j ((i:Int)+1)).1=u at *
   obtain⟨⟨un,up⟩,uk⟩:=u
   simp only at hst
   cases uk with
   | false =>
    rw[if_neg (by simp)]at hst
    simp -implicitDefEqProofs [PT.row]
    refine nx (j+1) [(1,1),(3,3),(6,6)] (by omega) (h4:=?_)
    simp[obOf,e3,hst,DK.row,zPT,PT.row]
   | true =>
    by_cases q:(rbI d i j).1<un
    ·rw[if_pos ⟨rfl,q⟩]at hst
     simp -implicitDefEqProofs [q,PT.row]
     refine nx (j+1) [(1,1),(3,3),(6,6)] (by omega) (h4:=?_)
     simp[obOf,e3,hst,DK.row,zPT,PT.row]
    ·rw[if_neg fun e=>q e.2]at hst
     simp -implicitDefEqProofs [q,PT.row]
     refine nx (j+1) [(1,1),(3,3),(6,6)] (by omega) (h4:=?_)
     simp[obOf,e3,hst,DK.row,zPT,PT.row]
  ·have hje:j=2:=by omega
   subst hje
   simp -implicitDefEqProofs [DK.row,PT.row]
   refine nx (i+1) [(1,1),(3,3),(6,6)] (by omega) (h4:=?_)
   simp[obOf,e2,rbI,DK.row,zPT,PT.row]
 ·have hie:i=4:=by omega
  subst hie
  simp -implicitDefEqProofs [DK.row,PT.row,rbB]
  first
   | rfl
   | congr
def opsO (l:List BO):Ob:=⟨5,l.map BO.row⟩
theorem clR_opsO (l:List BO):clR (opsO l).els=true:=by simp[clR,opsO,BO.row]
def lgAt (d:DK) (i:Nat) (side:Int):LR×Bool:=lgRd (qbo d side (5+(i:Int))).1
def hitB (d:DK) (txg:Int) (i:Nat) (side:Int):Bool:=(lgAt d i side).2 && decide ((lgAt d i side).1.txg=txg) && decide ((lgAt d i side).1.seq=i)
def recB (d:DK) (txg:Int) (i:Nat):Option BO:=if hitB d txg i 0=true then some (lgAt d i 0).1.op else if hitB d txg i 1=true then some (lgAt d i 1).1.op else none
def tkS:List (Option BO)→List BO
 | some o::r=>o::tkS r
 | _=>[]
def lfF (d:DK) (txg:Int) (k i:Nat):List BO:=tkS ((List.range' i k).map (recB d txg))
theorem lfF_0 (d:DK) (txg:Int) (i:Nat):lfF d txg 0 i=[]:=by simp[lfF,tkS]
@[simp] theorem renL_bo (ρ:Nat→Option Plc):renL ρ ∘ BO.row=BO.row:=by
 funext o
 simp[BO.row]
theorem lfF_s (d:DK) (txg:Int) (k i:Nat):lfF d txg (k+1) i=match recB d txg i with
  | some o=>o::lfF d txg k (i+1)
  | none=>[]:=by
 simp only[lfF,List.range'_succ,List.map_cons]
 generalize recB d txg i=x
 cases x <;> rfl
theorem lgAt_eq (d:DK) (i:Nat) (side:Int):lgAt d i side=lgRd (qbo d side (5+(i:Int))).1:=rfl
theorem hitB_eq (d:DK) (txg:Int) (i:Nat) (side:Int):hitB d txg i side=((lgAt d i side).2 && decide ((lgAt d i side).1.txg=txg) && decide ((lgAt d i side).1.seq=i)):=rfl
theorem recB_eq (d:DK) (txg:Int) (i:Nat):recB d txg i=if hitB d txg i 0=true then some (lgAt d i 0).1.op else if hitB d txg i 1=true then some (lgAt d i 1).1.op else none:=rfl
theorem lfF_tk (d:DK) (txg:Int) (k i:Nat):lfF d txg k i=tkS ((List.range' i k).map (recB d txg)):=rfl
attribute [irreducible] lfF recB hitB lgAt
def lfB (d:DK) (txg:Int):List BO:=lfF d txg 8 0
theorem lf_cv {f:Nat} {args:List AV} {R:List BO} (h:ACall prog f args [] (fun r L'=>(R=[]∧r=.nils∧L'=[])∨(r=.sl 900 0 R.length∧L'=[(900,opsO R)]))) (he:qcb prog f=true) (ha:clL args=true):CV prog f args (.lst 5 (R.map BO.row)):=by
 refine CV.of_frz h ?_ (he:=he) (hca:=ha) (hcv:=by simp[BO.row])
 rintro r L' (⟨rfl,rfl,rfl⟩ | ⟨rfl,rfl⟩)
 ·refine⟨by simp,by simp,by simp,?_⟩
  simp only[frzAll,List.map_nil]
  exact impA_nils 5
 ·refine⟨by simp,by simp,fun x hx=>by simp only[List.mem_singleton]at hx;subst hx;exact clR_opsO _,?_⟩
  simp[frzAll,opsO,qbh]
theorem sRecC (d:DK) (h:DkT d) (txg:Int) (i:Nat) (hi:i<8):CV prog 111 [.agg d.row,.int .i64 txg,.int .i64 i] (.tup [.agg ((recB d txg i).getD zBO).row,.bool (recB d txg i).isSome]):=by
 obtain⟨R,hR⟩:∃ R,recB d txg i=R:=⟨_,rfl⟩
 rw[hR]
 rw[recB_eq]at hR
 have e1:=i64w (5+(i:Int)) (by omega) (by omega)
 refine cvx func111 [] ntmps111 rfl rfl rfl ?_ (hca:=by simp[DK.row]) (hcv:=by simp[BO.row])
 simp -implicitDefEqProofs [DK.row]
 refine ev_lo (X:=Nat) [1,2,3,6,7,8] [(3,3),(6,6)] (fun j=>[(8,.int .i64 j)]) (fun j=>[(3,⟨3,[d.row]⟩),(6,⟨5,[zBO.row]⟩)]) (fun j=>2-j) (fun j=>j=0∨(j=1∧hitB d txg i 0=false)∨(j=2∧hitB d txg i 0=false∧hitB d txg i 1=false)) 0 (.inl rfl) ?_ (he:=by simp[obOf,DK.row,zBO,BO.row])
 have body:∀ side:Int,(lgAt d i side).2=true→(lgAt d i side).1.txg=txg→(lgAt d i side).1.seq=i→hitB d txg i side=true:=fun side a b c=>by rw[hitB_eq];simp[a,b,c]
 rintro j (rfl | ⟨rfl,q0⟩ | ⟨rfl,q0,q1⟩)
 ·have c1:=sReadC d h 0 (5+(i:Int))
  have hl:=dRead_len d 0 (5+(i:Int))
  have c2:=sLogReadC (qbo d 0 (5+(i:Int))).1 (by omega)
  have hh:hitB d txg i 0=((lgAt d i 0).2 && decide ((lgAt d i 0).1.txg=txg) && decide ((lgAt d i 0).1.seq=i)):=hitB_eq d txg i 0
  simp only[DK.row]at c1
  simp only[LR.row,BO.row]at c2
  simp -implicitDefEqProofs [DK.row,e1]
  refine c1.call ?_
  simp -implicitDefEqProofs
  refine c2.call ?_
  rw[← lgAt_eq]
  generalize lgAt d i 0=u at *
  obtain⟨⟨ut,us,uo⟩,uk⟩:=u
  simp only at hh hR
  cases uk with
  | false =>
   have hf:hitB d txg i 0=false:=by simpa using hh
   simp -implicitDefEqProofs
   exact nx 1 [(3,3),(6,6)] (by simp[hf]) (h4:=by simp[obOf,DK.row,zBO,BO.row])
  | true =>
   by_cases a:ut=txg
   ·by_cases b:us=i
    ·have ht:hitB d txg i 0=true:=by simp[hh,a,b]
     rw[if_pos ht]at hR
     subst hR
     simp -implicitDefEqProofs [a,b,BO.row]
    ·have hf:hitB d txg i 0=false:=by simp[hh,b]
     simp -implicitDefEqProofs [a,b]
     exact nx 1 [(3,3),(6,6)] (by simp[hf]) (h4:=by simp[obOf,DK.row,zBO,BO.row])
   ·have hf:hitB d txg i 0=false:=by simp[hh,a]
    simp -implicitDefEqProofs [a]
    exact nx 1 [(3,3),(6,6)] (by simp[hf]) (h4:=by simp[obOf,DK.row,zBO,BO.row])
 ·rw[if_neg (by simp[q0])]at hR
  have c1:=sReadC d h 1 (5+(i:Int))
  have hl:=dRead_len d 1 (5+(i:Int))
  have c2:=sLogReadC (qbo d 1 (5+(i:Int))).1 (by omega)
  have hh:hitB d txg i 1=((lgAt d i 1).2 && decide ((lgAt d i 1).1.txg=txg) && decide ((lgAt d i 1).1.seq=i)):=hitB_eq d txg i 1
  simp only[DK.row]at c1
  simp only[LR.row,BO.row]at c2
  simp -implicitDefEqProofs [DK.row,e1]
  refine c1.call ?_
  simp -implicitDefEqProofs
  refine c2.call ?_
  rw[← lgAt_eq]
  generalize lgAt d i 1=u at *
  obtain⟨⟨ut,us,uo⟩,uk⟩:=u
  simp only at hh hR
  cases uk with
  | false =>
   have hf:hitB d txg i 1=false:=by simpa using hh
   simp -implicitDefEqProofs
   exact nx 2 [(3,3),(6,6)] (by simp[hf,q0]) (h4:=by simp[obOf,DK.row,zBO,BO.row])
  | true =>
   by_cases a:ut=txg
   ·by_cases b:us=i
    ·have ht:hitB d txg i 1=true:=by simp[hh,a,b]
     rw[if_pos ht]at hR
     subst hR
     simp -implicitDefEqProofs [a,b,BO.row]
    ·have hf:hitB d txg i 1=false:=by simp[hh,b]
     simp -implicitDefEqProofs [a,b]
     exact nx 2 [(3,3),(6,6)] (by simp[hf,q0]) (h4:=by simp[obOf,DK.row,zBO,BO.row])
   ·have hf:hitB d txg i 1=false:=by simp[hh,a]
    simp -implicitDefEqProofs [a]
    exact nx 2 [(3,3),(6,6)] (by simp[hf,q0]) (h4:=by simp[obOf,DK.row,zBO,BO.row])
 ·rw[if_neg (by simp[q0]),if_neg (by simp[q1])]at hR
  subst hR
  simp -implicitDefEqProofs [zBO,BO.row]
theorem sLogFindC (d:DK) (h:DkT d) (txg:Int):CV prog 39 [.agg d.row,.int .i64 txg] (.lst 5 ((lfB d txg).map BO.row)):=by
 refine lf_cv ?_ (by kernel_rfl) (by simp[DK.row])
 obtain⟨R,hR⟩:∃ R,lfB d txg=R:=⟨_,rfl⟩
 rw[hR]
 unfold lfB at hR
 refine acx func39 [] ntmps39 rfl rfl rfl ?_
 simp -implicitDefEqProofs [DK.row]
 refine ev_lo (X:=Nat×List BO) [1,2,4,5,6] [(2,2),(9,900)] (fun x=>[(5,.sl 900 0 x.2.length),(6,.int .i64 x.1)]) (fun x=>[(2,⟨3,[d.row]⟩),(900,opsO x.2)]) (fun x=>8-x.1) (fun x=>x.1≤8∧x.2.length=x.1∧x.2++lfF d txg (8-x.1) x.1=R) (0,[]) (by simp[hR]) ?_ (he:=by simp[obOf,opsO,DK.row])
 rintro⟨i,acc⟩ ⟨hi,ha,hd⟩
 simp only at hi ha hd
 by_cases h8:i<8
 ·have e2:=i64w ((i:Int)+1) (by omega) (by omega)
  have c1:=sRecC d h txg i h8
  rw[show 8-i=(8-(i+1))+1 by omega,lfF_s]at hd
  simp only[DK.row]at c1
  simp -implicitDefEqProofs [show(i:Int)<8 by omega,h8,DK.row]
  refine c1.call ?_
  cases hr:recB d txg i with
  | none =>
   rw[hr]at hd
   simp only[List.append_nil]at hd
   subst hd
   simp -implicitDefEqProofs [BO.row]
  | some o =>
   rw[hr]at hd
   simp only at hd
   simp -implicitDefEqProofs [BO.row,opsO]
   refine⟨by omega,nx (i+1,acc++[o]) [(2,2),(27,900)] ⟨by simp only;omega,by simp[ha],by simp only;rw[List.append_assoc];exact hd⟩ (by simp only;omega) (h4:=?_)⟩
   simp[obOf,e2,opsO,DK.row,qbh,BO.row]
 ·have hie:i=8:=by omega
  subst hie
  simp only[Nat.sub_self,lfF_0,List.append_nil]at hd
  subst hd
  simp -implicitDefEqProofs
def lfI (d:DK) (txg:Int) (i j:Nat):Option BO:=if j=0 then none else if j=1 then (if hitB d txg i 0=true then some (lgAt d i 0).1.op else none) else recB d txg i
theorem iLogFindC (d:DK) (h:DkT d) (txg:Int):CV prog 50 [.agg d.row,.int .i64 txg] (.lst 5 ((lfB d txg).map BO.row)):=by
 refine lf_cv ?_ (by kernel_rfl) (by simp[DK.row])
 obtain⟨R,hR⟩:∃ R,lfB d txg=R:=⟨_,rfl⟩
 rw[hR]
 unfold lfB at hR
 refine acx func50 [] ntmps50 rfl rfl rfl ?_
 simp -implicitDefEqProofs [DK.row]
 refine ev_sw (sw_ph 5 5 (by simp) (by simp)) ?_
 refine ev_lo (X:=Nat×List BO) [1,2,4,5,13] [(2,2),(5,900)] (fun x=>[(5,.sl 900 0 x.2.length),(13,.int .i64 x.1)]) (fun x=>[(2,⟨3,[d.row]⟩),(900,opsO x.2)]) (fun x=>8-x.1) (fun x=>x.1≤8∧x.2.length=x.1∧x.2++lfF d txg (8-x.1) x.1=R) (0,[]) (by simp[hR]) ?_ (he:=by simp[obOf,opsO,DK.row])
 rintro⟨i,acc⟩ ⟨hi,ha,hd⟩
 simp only at hi ha hd
 by_cases h8:i<8
 ·have e2:=i64w ((i:Int)+1) (by omega) (by omega)
  have e1:=i64w (5+(i:Int)) (by omega) (by omega)
  rw[show 8-i=(8-(i+1))+1 by omega,lfF_s]at hd
  simp -implicitDefEqProofs [show(i:Int)<8 by omega,h8,DK.row]
  refine ev_lo (X:=Nat) [1,2,4,5,6,7,13,16] [(2,2),(900,900)] (fun j=>[(5,.sl 900 0 (acc++(lfI d txg i j).toList).length),(7,.bool (lfI d txg i j).isSome),(16,.int .i64 j)]) (fun j=>[(2,⟨3,[d.row]⟩),(900,opsO (acc++(lfI d txg i j).toList))]) (fun j=>2-j) (fun j=>j≤2) 0 (by simp) ?_ (he:=by simp[obOf,opsO,DK.row,lfI])
  rintro j hj
  have hjj:j=0∨j=1∨j=2:=by omega
  rcases hjj with rfl | rfl | rfl
  ·have c1:=iReadC d h 0 (5+(i:Int))
   have hl:=dRead_len d 0 (5+(i:Int))
   have c2:=iLogReadC (qbo d 0 (5+(i:Int))).1 (by omega)
   have hh:hitB d txg i 0=((lgAt d i 0).2 && decide ((lgAt d i 0).1.txg=txg) && decide ((lgAt d i 0).1.seq=i)):=hitB_eq d txg i 0
   have h0:lfI d txg i 0=none:=rfl
   have h1:lfI d txg i 1=(if hitB d txg i 0=true then some (lgAt d i 0).1.op else none):=rfl
   simp only[DK.row]at c1
   simp only[LR.row,BO.row]at c2
   simp -implicitDefEqProofs [DK.row,e1,h0]
   refine c1.call ?_
   simp -implicitDefEqProofs
   refine c2.call ?_
   rw[← lgAt_eq]
   generalize lgAt d i 0=u at *
   obtain⟨⟨ut,us,uo⟩,uk⟩:=u
   simp only at hh h1
   cases uk with
   | false =>
    have hf:hitB d txg i 0=false:=by simpa using hh
    simp -implicitDefEqProofs [h0]
    refine nx 1 [(2,2),(900,900)] (by omega) (h4:=?_)
    simp[obOf,opsO,DK.row,h0,h1,hf,BO.row]
   | true =>
    by_cases a:ut=txg
    ·by_cases b:us=i
     ·have ht:hitB d txg i 0=true:=by simp[hh,a,b]
      simp -implicitDefEqProofs [h0,a,b,opsO,BO.row]
      refine⟨by omega,nx 1 [(2,2),(53,900)] (by omega) (h4:=?_)⟩
      simp[obOf,opsO,DK.row,h0,h1,ht,BO.row,qbh]
     ·have hf:hitB d txg i 0=false:=by simp[hh,b]
      simp -implicitDefEqProofs [h0,a,b]
      refine nx 1 [(2,2),(900,900)] (by omega) (h4:=?_)
      simp[obOf,opsO,DK.row,h0,h1,hf,BO.row]
    ·have hf:hitB d txg i 0=false:=by simp[hh,a]
     simp -implicitDefEqProofs [h0,a]
     refine nx 1 [(2,2),(900,900)] (by omega) (h4:=?_)
     simp[obOf,opsO,DK.row,h0,h1,hf,BO.row]
  ·have c1:=iReadC d h 1 (5+(i:Int))
   have hl:=dRead_len d 1 (5+(i:Int))
   have c2:=iLogReadC (qbo d 1 (5+(i:Int))).1 (by omega)
   have hh:hitB d txg i 1=((lgAt d i 1).2 && decide ((lgAt d i 1).1.txg=txg) && decide ((lgAt d i 1).1.seq=i)):=hitB_eq d txg i 1
   have h0:lfI d txg i 1=(if hitB d txg i 0=true then some (lgAt d i 0).1.op else none):=rfl
   have h1:lfI d txg i 2=(if hitB d txg i 0=true then some (lgAt d i 0).1.op else if hitB d txg i 1=true then some (lgAt d i 1).1.op else none):=recB_eq d txg i
   simp only[DK.row]at c1
   simp only[LR.row,BO.row]at c2
   simp -implicitDefEqProofs [DK.row,e1]
   refine c1.call ?_
   simp -implicitDefEqProofs
   refine c2.call ?_
   cases g0:hitB d txg i 0 with
   | true =>
    rw[if_pos g0]at h0 h1
    cases uk2:(lgRd (qbo d 1 (5+(i:Int))).1).2 with
    | false =>
     simp -implicitDefEqProofs [h0]
     refine nx 2 [(2,2),(900,900)] (by omega) (h4:=?_)
     simp[obOf,opsO,DK.row,h0,h1,BO.row]
    | true =>
     simp -implicitDefEqProofs [h0]
     refine nx 2 [(2,2),(900,900)] (by omega) (h4:=?_)
     simp[obOf,opsO,DK.row,h0,h1,BO.row]
   | false =>
    rw[if_neg (by simp[g0])]at h0 h1
    rw[← lgAt_eq]
    generalize lgAt d i 1=u at *
    obtain⟨⟨ut,us,uo⟩,uk⟩:=u
    simp only at hh h1
    cases uk with
    | false =>
     have hf:hitB d txg i 1=false:=by simpa using hh
     simp -implicitDefEqProofs [h0]
     refine nx 2 [(2,2),(900,900)] (by omega) (h4:=?_)
     simp[obOf,opsO,DK.row,h0,h1,hf,BO.row]
    | true =>
     by_cases a:ut=txg
     ·by_cases b:us=i
      ·have ht:hitB d txg i 1=true:=by simp[hh,a,b]
       simp -implicitDefEqProofs [h0,a,b,opsO,BO.row]
       refine⟨by omega,nx 2 [(2,2),(53,900)] (by omega) (h4:=?_)⟩
       simp[obOf,opsO,DK.row,h0,h1,ht,BO.row,qbh]
      ·have hf:hitB d txg i 1=false:=by simp[hh,b]
       simp -implicitDefEqProofs [h0,a,b]
       refine nx 2 [(2,2),(900,900)] (by omega) (h4:=?_)
       simp[obOf,opsO,DK.row,h0,h1,hf,BO.row]
     ·have hf:hitB d txg i 1=false:=by simp[hh,a]
      simp -implicitDefEqProofs [h0,a]
      refine nx 2 [(2,2),(900,900)] (by omega) (h4:=?_)
      simp[obOf,opsO,DK.row,h0,h1,hf,BO.row]
  ·simp -implicitDefEqProofs [DK.row]
   cases hr:recB d txg i with
   | none =>
    rw[hr]at hd
    simp only[List.append_nil]at hd
    subst hd
    simp -implicitDefEqProofs [lfI,hr]
   | some o =>
    rw[hr]at hd
    simp only at hd
    simp -implicitDefEqProofs [lfI,hr]
    refine nx (i+1,acc++[o]) [(2,2),(900,900)] ⟨by simp only;omega,by simp[ha],by simp only;rw[List.append_assoc];exact hd⟩ (by simp only;omega) (h4:=?_)
    simp[obOf,e2,opsO,DK.row,lfI,hr,BO.row]
 ·have hie:i=8:=by omega
  subst hie
  simp only[Nat.sub_self,lfF_0,List.append_nil]at hd
  subst hd
  simp -implicitDefEqProofs
def cbT (d:DK) (p:PT):List UInt8:=(qad d p).1
def cbP (d:DK) (p:PT):Bool:=!(decide ((qad d p).2=2)) && decide ((cbT d p).length≤24)
def cbS (d:DK) (s:CS):BS:=⟨s.name,s.kind,s.frm,s.map.map (cbT d)⟩
def cbA (d:DK) (l:List CS):Bool:=l.all fun s=>s.map.all (cbP d)
def cbB (d:DK) (c:CO):List BS×Bool:=if dOkB d=true∧qax c=true∧cbA d c.sets=true then (c.sets.map (cbS d),true) else ([],false)
def cbM (d:DK) (s:CS) (j:Nat):BS:=⟨s.name,s.kind,s.frm,(s.map.take j).map (cbT d)++List.replicate (8-j) []⟩
def cbN (d:DK) (l:List CS) (i:Nat):List BS:=(l.take i).map (cbS d)++(l.drop i).map csB
theorem cbM_0 (d:DK) (s:CS):cbM d s 0=csB s:=by simp[cbM,csB]
theorem cbM_8 (d:DK) (s:CS) (h:s.map.length=8):cbM d s 8=cbS d s:=by
 simp[cbM,cbS,List.take_of_length_le (show s.map.length≤8 by omega)]
theorem cbM_len (d:DK) (s:CS) (j:Nat) (h:s.map.length=8) (hj:j≤8):(cbM d s j).bl.length=8:=by
 simp[cbM]
 omega
theorem cbM_step (d:DK) (s:CS) (j:Nat) (p:PT) (h:s.map.length=8) (hj:j<8) (hp:s.map[j]?=some p):{ cbM d s j with bl:=(cbM d s j).bl.set j (cbT d p) }=cbM d s (j+1):=by
 have h1:s.map.take (j+1)=s.map.take j++[p]:=by
  rw[List.take_add_one,hp]
  rfl
 have h2:List.replicate (8-j) ([]:List UInt8)=[]::List.replicate (8-(j+1)) []:=by
  rw[show 8-j=(8-(j+1))+1 by omega,List.replicate_succ]
 simp only[cbM,h1,h2,List.map_append,List.map_cons,List.map_nil]
 rw[List.set_append_right _ _ (by simp;omega)]
 simp[h,show min j 8=j by omega]
theorem cbN_0 (d:DK) (l:List CS):cbN d l 0=l.map csB:=by simp[cbN]
theorem cbN_len (d:DK) (l:List CS) (i:Nat):(cbN d l i).length=l.length:=by
 simp[cbN]
 omega
theorem cbN_end (d:DK) (l:List CS):cbN d l l.length=l.map (cbS d):=by simp[cbN]
theorem cbN_set {d:DK} {l:List CS} {i:Nat} {s:CS} (hs:l[i]?=some s) (x:BS):(cbN d l i).set i x=(l.take i).map (cbS d)++x::(l.drop (i+1)).map csB:=by
 have hl:=(List.getElem?_eq_some_iff.1 hs).1
 have hd:l.drop i=s::l.drop (i+1):=by
  have:=(List.getElem?_eq_some_iff.1 hs).2
  rw[← this]
  exact List.drop_eq_getElem_cons hl
 unfold cbN
 rw[hd,List.map_cons,List.set_append_right _ _ (by simp;omega)]
 simp[show min i l.length=i by omega]
theorem cbN_zero {d:DK} {l:List CS} {i:Nat} {s:CS} (hs:l[i]?=some s):(cbN d l i).set i (cbM d s 0)=cbN d l i:=by
 have hl:=(List.getElem?_eq_some_iff.1 hs).1
 have hd:l.drop i=s::l.drop (i+1):=by
  have:=(List.getElem?_eq_some_iff.1 hs).2
  rw[← this]
  exact List.drop_eq_getElem_cons hl
 rw[cbN_set hs,cbM_0]
 unfold cbN
 rw[hd,List.map_cons]
theorem cbN_next {d:DK} {l:List CS} {i:Nat} {s:CS} (hs:l[i]?=some s) (h8:s.map.length=8):(cbN d l i).set i (cbM d s 8)=cbN d l (i+1):=by
 rw[cbN_set hs,cbM_8 d s h8]
 unfold cbN
 rw[List.take_add_one,hs]
 simp
def cbQ (R:List BS×Bool) (r:AV) (L':List (Nat×Ob)):Prop:=(R=([],false)∧r=.tup [.agg [.nils],.bool false]∧L'=[])∨(∃ bs,R=(bs,true)∧r=.tup [.agg [.sl 900 0 bs.length],.bool true]∧L'=[(900,bkOb bs)])
theorem cbQ_cv {f:Nat} {args:List AV} {R:List BS×Bool} (h:ACall prog f args [] (cbQ R)) (he:qcb prog f=true) (ha:clL args=true):CV prog f args (.tup [bk R.1,.bool R.2]):=by
 refine CV.of_frz h ?_ (he:=he) (hca:=ha) (hcv:=by simp[bk])
 rintro r L' (⟨rfl,rfl,rfl⟩ | ⟨bs,rfl,rfl,rfl⟩)
 ·refine⟨by simp,by simp,by simp,?_⟩
  simp only[frzAll,bk,List.map_nil]
  exact impA_tu (.cons (impA_ag (.cons (impA_nils 11) .nil)) (.cons (qbw _) .nil))
 ·refine⟨by simp,by simp,fun x hx=>by simp only[List.mem_singleton]at hx;subst hx;exact clR_bk _,?_⟩
  simp[frzAll,bkOb,bk,qbh]
theorem cbA_take {d:DK} {l:List CS} {i:Nat} {s:CS} (hs:l[i]?=some s) (h:cbA d (l.take i)=true) (h2:s.map.all (cbP d)=true):cbA d (l.take (i+1))=true:=by
 rw[List.take_add_one,hs]
 unfold cbA at *
 rw[List.all_append,h]
 simp[h2]
theorem cbA_no {d:DK} {l:List CS} {s:CS} {p:PT} (hs:s∈l) (hp:p∈s.map) (h:cbP d p=false):cbA d l=false:=by
 cases hk:cbA d l with
 | false=>rfl
 | true =>
  unfold cbA at hk
  rw[List.all_eq_true]at hk
  have:=hk s hs
  rw[List.all_eq_true]at this
  rw[this p hp]at h
  cases h
theorem all_take1 {d:DK} {l:List PT} {j:Nat} {p:PT} (hp:l[j]?=some p) (h:(l.take j).all (cbP d)=true) (h2:cbP d p=true):(l.take (j+1)).all (cbP d)=true:=by
 rw[List.take_add_one,hp,List.all_append,h]
 simp[h2]
theorem sBookC (d:DK) (h:DkT d) (c:CO) (hc:CoT c):CV prog 41 [.agg d.row,.agg c.row] (.tup [bk (cbB d c).1,.bool (cbB d c).2]):=by
 refine cbQ_cv ?_ (by kernel_rfl) (by simp[DK.row,co_cl])
 obtain⟨R,hR⟩:∃ R,cbB d c=R:=⟨_,rfl⟩
 rw[hR]
 unfold cbB at hR
 have c1:=sDiskOkC d h
 have c2:=sCoreOk c hc
 have hs:=hc.sets
 have c3:=sNamesA c (by omega) hc.m8
 simp only[DK.row,CO.row]at c1 c2 c3
 refine acx func41 [(10,[zJ 0 [2] [],zJ 1 [] [2],zJ 2 [3] [2],zJ 3 [] [2,3],zJ 4 [] [2,3],zJ 5 [] [2],zJ 6 [] [2],zJ 7 [] [2],zJ 8 [] [2],zI 9,zI 10,zI 11,zI 12,zI 13,zI 14])] ntmps41 rfl rfl rfl ?_
 simp -implicitDefEqProofs [DK.row,CO.row]
 refine c1.call ?_
 cases k1:dOkB d with
 | false =>
  rw[if_neg (by simp[k1])]at hR
  subst hR
  simp -implicitDefEqProofs
  exact⟨[],by simp,.inl ⟨rfl,rfl,rfl⟩⟩
 | true =>
  simp -implicitDefEqProofs
  refine c2.call ?_
  cases k2:qax c with
  | false =>
   rw[if_neg (by simp[k2])]at hR
   subst hR
   simp -implicitDefEqProofs
   exact⟨[],by simp,.inl ⟨rfl,rfl,rfl⟩⟩
  | true =>
   simp -implicitDefEqProofs
   refine qaf [] (by kernel_rfl) c3 (by simp[cs_cl,DE.row,PT.row,qac]) (by simp) trivial (by simp) (by simp) ?_
   rintro r L' ⟨rfl,rfl⟩
   refine⟨[(900,900)],⟨by simp,by simp,by simp,by simp,by simp⟩,?_⟩
   simp only[qan]
   simp -implicitDefEqProofs
   refine ev_lo (X:=Nat) [2,3,4,5,6,7] [(2,2),(3,3),(4,4),(6,6),(900,900)] (fun i=>[(7,.int .i64 i)]) (fun i=>[(2,⟨3,[d.row]⟩),(3,⟨7,[c.row]⟩),(4,⟨1,[[.nils]]⟩),(6,⟨1,[[.sl 900 0 c.sets.length]]⟩),(900,bkOb (cbN d c.sets i))]) (fun i=>c.sets.length-i) (fun i=>i≤c.sets.length∧cbA d (c.sets.take i)=true) 0 ⟨by omega,by simp[cbA]⟩ ?_ (he:=by simp[obOf,DK.row,CO.row,cbN_0,bkOb])
   rintro i ⟨hi,ha⟩
   by_cases hil:i<c.sets.length
   ·obtain⟨s,f1⟩:∃ s,c.sets[i]?=some s:=⟨_,List.getElem?_eq_getElem hil⟩
    have f0:c.sets[i]=s:=(List.getElem?_eq_some_iff.1 f1).2
    have hm:=List.mem_of_getElem? f1
    have s8:=hc.m8 s hm
    have hrl:=qbf s s8
    have e2:=i64w ((i:Int)+1) (by omega) (by omega)
    simp -implicitDefEqProofs [show(i:Int)<c.sets.length by omega,hil,CO.row,DK.row]
    refine ev_lo (X:=Nat) [2,3,4,5,6,7,8] [(2,2),(3,3),(4,4),(6,6),(900,900)] (fun j=>[(8,.int .i64 j)]) (fun j=>[(2,⟨3,[d.row]⟩),(3,⟨7,[c.row]⟩),(4,⟨1,[[.nils]]⟩),(6,⟨1,[[.sl 900 0 c.sets.length]]⟩),(900,bkOb ((cbN d c.sets i).set i (cbM d s j)))]) (fun j=>8-j) (fun j=>j≤8∧(s.map.take j).all (cbP d)=true) 0 ⟨by omega,by simp⟩ ?_ (he:=by simp[obOf,DK.row,CO.row,cbN_zero f1,bkOb])
    rintro j ⟨hj,hja⟩
    by_cases h8:j<8
    ·obtain⟨p,p1⟩:∃ p,s.map[j]?=some p:=⟨_,List.getElem?_eq_getElem (by omega)⟩
     have pm:=List.mem_of_getElem? p1
     have e3:=i64w ((j:Int)+1) (by omega) (by omega)
     have c4:=sBlkReadC d h p
     have hcell:=cs_map s p1
     have hst:=cbM_step d s j p s8 h8 p1
     simp only[cbT]at hst
     simp only[DK.row,PT.row]at c4 hcell
     simp -implicitDefEqProofs [show(j:Int)<8 by omega,h8,show(i:Int)<c.sets.length by omega,hil,f0,f1,hrl,hcell,DK.row,CO.row]
     refine⟨by omega,c4.call ?_⟩
     by_cases q1:(qad d p).2=2
     ·have hb:cbP d p=false:=by simp[cbP,q1]
      rw[if_neg (by simp[cbA_no hm pm hb])]at hR
      subst hR
      simp -implicitDefEqProofs [q1]
      exact⟨[],by simp,.inl ⟨rfl,rfl,rfl⟩⟩
     ·by_cases q2:24<(qad d p).1.length
      ·have hb:cbP d p=false:=by
        unfold cbP cbT
        simp only[Bool.and_eq_false_iff,decide_eq_false_iff_not]
        right
        omega
       rw[if_neg (by simp[cbA_no hm pm hb])]at hR
       subst hR
       simp -implicitDefEqProofs [q1,q2,show(24:Int)<(qad d p).1.length by omega]
       exact⟨[],by simp,.inl ⟨rfl,rfl,rfl⟩⟩
      ·have hb:cbP d p=true:=by
        unfold cbP cbT
        simp only[q1,decide_false,Bool.not_false,Bool.true_and,decide_eq_true_eq]
        omega
       have hja2:=all_take1 p1 hja hb
       obtain⟨Y,hY⟩:∃ Y,(cbN d c.sets i).set i (cbM d s j)=Y:=⟨_,rfl⟩
       have hYl:Y.length=c.sets.length:=by rw[← hY];simp[cbN_len]
       have y1:Y[i]?=some (cbM d s j):=by rw[← hY];simp[cbN_len,hil]
       have hiY:i<Y.length:=by omega
       have y0:Y[i]=cbM d s j:=(List.getElem?_eq_some_iff.1 y1).2
       have hml:=cbM_len d s j s8 hj
       have e9:=row_set (cbM d s j) j (qad d p).1 (by omega)
       have hYs:Y.set i (cbM d s (j+1))=(cbN d c.sets i).set i (cbM d s (j+1)):=by rw[← hY,List.set_set]
       rw[hY]
       simp -implicitDefEqProofs [q1,q2,show ¬ (24:Int)<(qad d p).1.length by omega,hil,hiY,y0,y1,hYl,bkOb]
       refine⟨by omega,by omega,nx (j+1) [(2,2),(3,3),(4,4),(6,6),(900,900)] ⟨by omega,by simpa using hja2⟩ (by omega) (h4:=?_)⟩
       rw[hst]at e9
       simp[obOf,e3,e9,DK.row,CO.row,bkOb,← List.map_set,hYs]
    ·have hje:j=8:=by omega
     subst hje
     rw[List.take_of_length_le (by omega)]at hja
     simp -implicitDefEqProofs [DK.row,CO.row]
     refine nx (i+1) [(2,2),(3,3),(4,4),(6,6),(900,900)] ⟨by omega,cbA_take f1 ha hja⟩ (by omega) (h4:=?_)
     simp[obOf,e2,DK.row,CO.row,cbN_next f1 s8,bkOb]
   ·have hie:i=c.sets.length:=by omega
    subst hie
    rw[List.take_of_length_le (by omega)]at ha
    rw[if_pos ⟨k1,k2,ha⟩]at hR
    subst hR
    simp -implicitDefEqProofs [CO.row,DK.row]
    exact⟨[(900,bkOb (c.sets.map (cbS d)))],by simp[obOf,cbN_end,bkOb],.inr ⟨_,rfl,by simp,rfl⟩⟩
end Go.Av.F
end
