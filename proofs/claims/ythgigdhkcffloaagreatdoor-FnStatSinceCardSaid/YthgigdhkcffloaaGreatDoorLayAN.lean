/- Lemmas for the proof, no statement of the seat; no conditions. -/
import Derived.Test.YthgigdhkcffloaaGreatDoorLayAM
set_option linter.unusedSimpArgs false
set_option linter.unusedVariables false
set_option linter.unnecessarySimpa false
set_option maxRecDepth 100000
section
namespace Go.Av.F
open Go Go.Av Go.Proofs Go.Proofs.Tryz
attribute [simp] CO.row
def csB (s:CS):BS:=⟨s.name,s.kind,s.frm,List.replicate 8 []⟩
@[simp] theorem co_cl (l:List CS):clL [.lst 31 (l.map CS.row)]=true:=by simp
@[simp] theorem renL_bs (ρ:Nat→Option Plc) {α:Type} (g:α→BS):renL ρ ∘ BS.row ∘ g=BS.row ∘ g:=by
 funext x;exact renL_closed.renL_closedL ρ _ (row_cl _)
theorem bs_csB (x:CS):BS.row (csB x)=[.str x.name,.int .i64 x.kind,.str x.frm,.str [],.str [],.str [],.str [],.str [],.str [],.str [],.str []]:=rfl
def nmR (n:Nat) (l:List CS) (r:AV) (L':List (Nat×Ob)):Prop:=r=.agg [.sl 900 0 l.length]∧L'=[(900,bkOb (l.map csB))]
theorem sNamesA (c:CO) (hl:c.sets.length≤1048576) (h8:∀ s∈c.sets,s.map.length=8):ACall prog 20 [.agg c.row] [] (nmR 900 c.sets):=by
 refine acx func20 [(5,[zI 0,zJ 1 [3] [],zJ 2 [] [3],zJ 3 [1] [3],zJ 4 [] [3,1],zJ 5 [] [3],zJ 6 [] [3],zJ 7 [] [3],zJ 8 [] [3,1],zJ 9 [1] [3,1],zJ 10 [] [3,1],zJ 11 [] [3,1],zJ 12 [] [3,1],zJ 13 [] [3,1],zJ 14 [] [3,1],zJ 15 [1] [3,1],zJ 16 [] [3,1],zJ 17 [] [3,1],zJ 18 [] [3,1],zJ 19 [] [3,1],zJ 20 [] [3],zJ 21 [] [3],zI 22,zI 23,zI 24])] ntmps20 rfl rfl rfl ?_
 simp -implicitDefEqProofs
 refine ev_sw ((sw_pht 900 11 (by simp)).trans (sw_impc 3 0 rfl (by simp) (impA_sl0 900 0))) ?_
 refine ev_lo (X:=Nat) [1,2,3,4] [(1,1),(2,2),(3,3),(900,900)] (fun i=>[(4,.int .i64 i)]) (fun i=>[(1,⟨7,[c.row]⟩),(2,⟨1,[[.nils]]⟩),(3,⟨1,[[.sl 900 0 i]]⟩),(900,⟨11,((c.sets.take i).map csB).map BS.row⟩)]) (fun i=>c.sets.length-i) (fun i=>i≤c.sets.length) 0 (by simp) ?_
 intro i hi
 by_cases h1:i<c.sets.length
 ·obtain⟨x,e0⟩:∃ x,c.sets[i]=x:=⟨_,rfl⟩
  have e1:c.sets[i]?=some x:=by rw[← e0];exact List.getElem?_eq_getElem h1
  have hrl:=qay x (h8 x (List.mem_of_getElem? e1))
  have e2:=i64w ((i:Int)+1) (by omega) (by omega)
  simp -implicitDefEqProofs [h1,e0,hrl,e2]
  exact⟨by omega,nx (i+1) [(1,1),(2,2),(3,3),(35,900)] (by omega) (h4:=by simp -implicitDefEqProofs [tk1 _ e1,bs_csB,List.take_take])⟩
 ·have:i=c.sets.length:=by omega
  subst this
  simp -implicitDefEqProofs
  exact⟨[(900,bkOb (c.sets.map csB))],by simp[bkOb],rfl,rfl⟩
theorem frameA (c:CO) (hl:c.sets.length≤1048576) (h8:∀ s∈c.sets,s.map.length=8):ACall prog 37 [.agg c.row] [] (nmR 900 c.sets):=by
 refine acx func37 [] ntmps37 rfl rfl rfl ?_
 simp -implicitDefEqProofs
 refine ev_sw ((sw_pht 900 11 (by simp)).trans (sw_impc 3 0 rfl (by simp) (impA_sl0 900 0))) ?_
 refine ev_lo (X:=Nat) [2,3,7,8,9] [(2,2),(3,3),(900,900)] (fun i=>[(9,.int .i64 i)]) (fun i=>[(2,⟨1,[[.nils]]⟩),(3,⟨1,[[.sl 900 0 i]]⟩),(900,⟨11,((c.sets.take i).map csB).map BS.row⟩)]) (fun i=>c.sets.length-i) (fun i=>i≤c.sets.length) 0 (by simp) ?_
 intro i hi
 by_cases h1:i<c.sets.length
 ·obtain⟨x,e0⟩:∃ x,c.sets[i]=x:=⟨_,rfl⟩
  have e1:c.sets[i]?=some x:=by rw[← e0];exact List.getElem?_eq_getElem h1
  have hrl:=qay x (h8 x (List.mem_of_getElem? e1))
  have e2:=i64w ((i:Int)+1) (by omega) (by omega)
  have ht:List.take 31 x.row=x.row:=List.take_of_length_le (by omega)
  simp -implicitDefEqProofs [h1,e0,hrl,e2,ht]
  exact⟨oneA_cs x,by omega,nx (i+1) [(2,2),(3,3),(23,900)] (by omega) (h4:=by simp -implicitDefEqProofs [tk1 _ e1,bs_csB,List.take_take])⟩
 ·have:i=c.sets.length:=by omega
  subst this
  simp -implicitDefEqProofs
  exact⟨[(900,bkOb (c.sets.map csB))],by simp[bkOb],rfl,rfl⟩
theorem nm_cv {f:Nat} {c:CO} (h:ACall prog f [.agg c.row] [] (nmR 900 c.sets)) (he:enters prog f=true:=by kernel_rfl):CV prog f [.agg c.row] (bk (c.sets.map csB)):=by
 refine CV.of_frz h (fun r L' hR=>?_) he (by simp) (by simp[bk])
 obtain⟨rfl,rfl⟩:=hR
 refine⟨by simp,by simp,by simp,?_⟩
 simp[qcf,bkOb,bk,List.take_of_length_le]
 exact qaz _
theorem sNamesC (c:CO) (hl:c.sets.length≤1048576) (h8:∀ s∈c.sets,s.map.length=8):CV prog 20 [.agg c.row] (bk (c.sets.map csB)):=nm_cv (sNamesA c hl h8)
theorem frameC (c:CO) (hl:c.sets.length≤1048576) (h8:∀ s∈c.sets,s.map.length=8):CV prog 37 [.agg c.row] (bk (c.sets.map csB)):=nm_cv (frameA c hl h8)
abbrev ddP (l:List DE) (a:Int):Nat:=bsK (fun e=>e.ea-a) l
abbrev ddT (l:List DE) (a:Int):Bool:=bsT (fun e=>e.ea-a) l
theorem bsK_cons {α:Type} (c:α→Int) (x:α) (r:List α):bsK c (x::r)=if c x<0 then bsK c r+1 else 0:=by
 simp only[bsK,List.takeWhile_cons];split <;> simp_all
theorem l5AtC (l:List DE) (a:Int) (hl:l.length≤1048576):CV prog 74 [.lst 3 (l.map DE.row),.int .i64 a] (.tup [.int .i64 (ddP l a),.bool (ddT l a)]):=by
 obtain⟨K,hK⟩:∃ K,ddP l a=K:=⟨_,rfl⟩
 refine cvx func74 [] ntmps74 rfl rfl rfl ?_
 simp -implicitDefEqProofs
 refine ev_lp (X:=Nat) [0,1,6] [] (fun i=>[(6,.int .i64 i)]) (fun _=>[]) (fun i=>l.length-i) (fun i=>i≤l.length∧i+ddP (l.drop i) a=K) 0 (by simp[hK]) ?_
 rintro i ⟨hi,hd⟩
 cases hr:l.drop i with
 | nil =>
  have:=dropn hr
  rw[hr]at hd
  have hie:i=l.length:=by omega
  have hk:K=l.length:=by simp[bsK]at hd;omega
  simp -implicitDefEqProofs [hie,hK,hk,ddT,bsT]
 | cons x r =>
  obtain⟨h1,e0,e1,h3⟩:=dropc hr
  rw[hr]at hd
  simp only[ddP,bsK_cons]at hd
  have e2:=i64w ((i:Int)+1) (by omega) (by omega)
  simp -implicitDefEqProofs [h1,e0,e2]
  by_cases hx:x.ea<a
  ·have hx':¬ a≤x.ea:=by omega
   rw[if_pos (by omega)]at hd
   simp -implicitDefEqProofs [hx,hx']
   exact nx (i+1) [] ⟨by omega,by simp only[ddP,h3];omega⟩
  ·have hx':a≤x.ea:=by omega
   rw[if_neg (by omega)]at hd
   have hik:K=i:=by omega
   subst hik
   simp -implicitDefEqProofs [hx,hx',h1,e0,hK,bsT]
   rw[Bool.eq_iff_iff];simp;omega
def qan (l:List CS):List PT:=l.flatMap CS.map
theorem qch {q:Int}:∀ {l:List DE},ddtR q l=true→(∀ e∈l,q<e.ea∧deOkB e=true)∧∀ (i j:Nat) (a b:DE),i<j→l[i]?=some a→l[j]?=some b→a.ea<b.ea
 | [],_=>by simp
 | x::r,h=>by
  simp only[ddtR,Bool.and_eq_true,decide_eq_true_eq]at h
  obtain⟨h1,h2⟩:=qch (q:=x.ea) (l:=r) h.2
  refine⟨fun e he=>?_,fun i j a b hij ha hb=>?_⟩
  ·rcases List.mem_cons.1 he with rfl | he
   ·exact⟨h.1.2,h.1.1⟩
   ·exact⟨by have:=(h1 e he).1;omega,(h1 e he).2⟩
  ·cases j with
   | zero=>omega
   | succ j =>
    have hb':r[j]?=some b:=by simpa using hb
    cases i with
    | zero =>
     simp at ha;subst ha
     exact(h1 b (List.mem_of_getElem? hb')).1
    | succ i=>exact h2 i j a b (by omega) (by simpa using ha) hb'
theorem rowDE:RowT DE.row 24 48 3:=⟨tt24,⟨_,_,_,tt48⟩,by simp⟩
theorem placeFD (x:DE) (a:Int) (ha:0≤a∧a≤1000) (hx:0≤x.ea∧x.ea≤1000):CV prog 98 [.agg x.row,.int .i64 a] (.int .i64 (x.ea-a)):=by
 have e:=i64w (x.ea-a) (by omega) (by omega)
 refine cvx func98 [] ntmps98 rfl rfl rfl ?_
 simp -implicitDefEqProofs [e]
theorem ddtPlaceC (l:List DE) (a:Int) (h:qaf l=true) (ha:0≤a∧a≤1000):CV prog 69 [.lst 3 (l.map DE.row),.int .i64 a] (.tup [.int .i64 (ddP l a),.bool (ddT l a)]):=by
 simp only[qaf,Bool.and_eq_true,decide_eq_true_eq]at h
 obtain⟨h1,h2⟩:=qch h.2
 have key:CV prog 97 [.lst 3 (l.map DE.row),.int .i64 a,.fn 98 []] (.tup [.int .i64 (ddP l a),.bool (ddT l a)]):=by
  refine cvx func97 [] ntmps97 rfl rfl rfl ?_
  refine bs_ev rowDE tt167 (fun e=>e.ea-a) l (by omega) (by simp) (fun i j x y hij hx hy hc=>by have:=h2 i j x y hij hx hy;simp only at hc ⊢;omega) (by simp) fun x hx=>placeFD x a ha ?_
  have:=(h1 x hx).2
  simp[deOkB]at this;omega
 refine cvx func69 [] ntmps69 rfl rfl rfl ?_
 simp -implicitDefEqProofs
 refine key.call ?_
 simp -implicitDefEqProofs
end Go.Av.F

end
section
namespace Go.Av.F
open Go Go.Av Go.Proofs Go.Proofs.Tryz
theorem cs_cell (s:CS) {i k:Nat} {p:PT} (h:s.map[i]?=some p) (hk:k<3):s.row[3+i * 3+k]?=p.row[k]?:=by
 have h1:=cs_map s h
 have:(List.take 3 (List.drop (3+i * 3) s.row))[k]?=s.row[3+i * 3+k]?:=by
  rw[List.getElem?_take,if_pos hk,List.getElem?_drop]
 rw[← this,h1]
theorem cs_at (s:CS) {i:Nat} {p:PT} (h:s.map[i]?=some p):s.row[3+i * 3]?=some (.int .i64 p.pa):=cs_cell s h (k:=0) (by omega)
theorem cs_at' (s:CS) {i:Nat} {p:PT} (h:s.map[i]?=some p) (hk:3+i * 3<s.row.length):s.row[3+i * 3]=.int .i64 p.pa:=by
 have:=cs_at s h
 rw[List.getElem?_eq_getElem hk]at this
 exact Option.some.inj this
def ptN (a:Int) (l:List PT):Nat:=l.countP fun p=>decide (p.pa=a)
def refsB (a:Int) (l:List CS):Nat:=if 0<a then ptN a (qan l) else 0
theorem refsB_cons (a:Int) (x:CS) (r:List CS):refsB a (x::r)=(if 0<a then ptN a x.map else 0)+refsB a r:=by
 simp[refsB,ptN,qan];split <;> omega
theorem ptN_cons (a:Int) (p:PT) (r:List PT):ptN a (p::r)=(if p.pa=a then 1 else 0)+ptN a r:=by
 simp[ptN,List.countP_cons];omega
theorem ptN_le (a:Int) (l:List PT):ptN a l≤l.length:=List.countP_le_length
theorem pts_len:∀ (l:List CS),(∀ s∈l,s.map.length=8)→(qan l).length=8 * l.length
 | [],_=>rfl
 | x::r,h=>by
  have:=pts_len r fun s hs=>h s (List.mem_cons_of_mem _ hs)
  have h8:=h x (by simp)
  simp[qan]at this ⊢;omega
theorem refsB_le (a:Int) (l:List CS) (h:∀ s∈l,s.map.length=8):refsB a l≤8 * l.length:=by
 have:=ptN_le a (qan l);have:=pts_len l h
 unfold refsB;split <;> omega
theorem refsC (c:CO) (a:Int) (hl:c.sets.length≤1048576) (h8:∀ s∈c.sets,s.map.length=8):CV prog 73 [.agg c.row,.int .i64 a] (.int .i64 (refsB a c.sets)):=by
 obtain⟨R,hR⟩:∃ R,refsB a c.sets=R:=⟨_,rfl⟩
 have hRl:=refsB_le a c.sets h8
 rw[hR]at hRl ⊢
 refine cvx func73 [] ntmps73 rfl rfl rfl ?_
 simp -implicitDefEqProofs
 refine ev_lp (X:=Nat×Nat) [1,2,5,6] [(2,2)] (fun x=>[(6,.int .i64 x.1),(5,.int .i64 x.2)]) (fun _=>[]) (fun x=>c.sets.length-x.1) (fun x=>x.1≤c.sets.length∧x.2+refsB a (c.sets.drop x.1)=R) (0,0) (by simp[hR]) ?_
 rintro⟨i,n⟩ ⟨hi,hd⟩
 simp only at hi hd
 cases hr:c.sets.drop i with
 | nil =>
  have:=dropn hr
  rw[hr]at hd
  have hie:i=c.sets.length:=by omega
  simp[refsB,qan,ptN]at hd
  simp -implicitDefEqProofs [hie,hd]
 | cons x r =>
  obtain⟨h1,e0,e1,h3⟩:=dropc hr
  have hx8:=h8 x (List.mem_of_getElem? e1)
  have hrl:=qay x hx8
  rw[hr,refsB_cons]at hd
  have e2:=i64w ((i:Int)+1) (by omega) (by omega)
  simp -implicitDefEqProofs [h1]
  refine ev_lp (X:=Nat×Nat) [1,2,5,6,7] [(2,2)] (fun y=>[(7,.int .i64 y.1),(5,.int .i64 y.2)]) (fun _=>[]) (fun y=>8-y.1) (fun y=>y.1≤8∧y.2+(if 0<a then ptN a (x.map.drop y.1) else 0)+refsB a r=R) (0,n) (by simp;omega) ?_
  rintro⟨j,m⟩ ⟨hj,hm⟩
  simp only at hj hm
  by_cases h2:j<8
  ·obtain⟨p,f1⟩:∃ p,x.map[j]?=some p:=⟨_,List.getElem?_eq_getElem (by omega)⟩
   rw[dropAt f1,ptN_cons]at hm
   have e3:=i64w ((j:Int)+1) (by omega) (by omega)
   have e4:=i64w ((m:Int)+1) (by omega) (by omega)
   have h2':(j:Int)<8:=by omega
   have h2'':3+j * 3<31:=by omega
   simp -implicitDefEqProofs [h1,e0,h2',hrl,cs_at' x f1,h2'']
   refine⟨by omega,?_⟩
   repeat' first
    | with_reducible intro _
    | with_reducible refine And.intro ?_ ?_
   all_goals first
    | exact nx (j+1,m+1) [(2,2)] (by simp only;grind) (h4:=by simp[e3,e4])
    | exact nx (j+1,m) [(2,2)] (by simp only;grind) (h4:=by simp[e3])
  ·have:j=8:=by omega
   subst this
   simp -implicitDefEqProofs [e2]
   simp[ptN,← hx8]at hm
   exact nx (i+1,m) [(2,2)] ⟨by simp only;omega,by simp only[h3];exact hm⟩
def nnN (l:List PT):Nat:=l.countP fun p=>decide (0<p.pa)
theorem nnN_cons (p:PT) (r:List PT):nnN (p::r)=(if 0<p.pa then 1 else 0)+nnN r:=by simp[nnN,List.countP_cons];omega
theorem nnN_le (l:List PT):nnN l≤l.length:=List.countP_le_length
def nnS (l:List CS):Nat:=nnN (qan l)
theorem nnS_cons (x:CS) (r:List CS):nnS (x::r)=nnN x.map+nnS r:=by simp[nnS,nnN,qan]
def sumEc:List DE→Int
 | []=>0
 | e::r=>e.ec+sumEc r
theorem sumEc_le:∀ (l:List DE),(∀ e∈l,1≤e.ec∧e.ec≤1000)→0≤sumEc l∧sumEc l≤1000 * l.length
 | [],_=>by simp[sumEc]
 | e::r,h=>by
  have h1:=h e (by simp)
  have h2:=sumEc_le r fun x hx=>h x (List.mem_cons_of_mem _ hx)
  simp only[sumEc,List.length_cons];omega
theorem ddt_ec {l:List DE} (h:qaf l=true):l.length≤48∧∀ e∈l,1≤e.ec∧e.ec≤1000:=by
 simp only[qaf,Bool.and_eq_true,decide_eq_true_eq]at h
 refine⟨h.1,fun e he=>?_⟩
 have:=((qch h.2).1 e he).2
 simp[deOkB]at this;omega
def cntOkB (c:CO):Bool:=(c.ddt.all fun e=>decide ((refsB e.ea c.sets:Int)=e.ec)) && decide (sumEc c.ddt=(nnS c.sets:Int))
theorem countsC (c:CO) (hl:c.sets.length≤1048576) (h8:∀ s∈c.sets,s.map.length=8) (hd:qaf c.ddt=true):CV prog 44 [.agg c.row] (.bool (cntOkB c)):=by
 obtain⟨hdl,hec⟩:=ddt_ec hd
 obtain⟨T,hT⟩:∃ T,sumEc c.ddt=T:=⟨_,rfl⟩
 obtain⟨hT1,hT2⟩:=sumEc_le _ hec
 have hnn:=nnN_le (qan c.sets)
 rw[pts_len _ h8]at hnn
 obtain⟨R,hR⟩:∃ R,cntOkB c=R:=⟨_,rfl⟩
 rw[hR]
 rw[hT]at hT1 hT2
 refine cvx func44 [(5,[zJ 0 [1] [],zJ 1 [] [1],zJ 2 [1] [1],zJ 3 [] [1],zJ 4 [] [1],zJ 5 [] [1],zJ 6 [] [1],zJ 8 [] [1],zJ 9 [1] [1],zJ 10 [] [1],zJ 11 [] [1],zJ 12 [] [1],zJ 13 [] [1],zJ 7 [] [1],zI 14])] ntmps44 rfl rfl rfl ?_
 simp -implicitDefEqProofs
 refine ev_lp (X:=Nat×Int) [1,3,4] [(1,1)] (fun x=>[(4,.int .i64 x.1),(3,.int .i64 x.2)]) (fun _=>[]) (fun x=>c.ddt.length-x.1)
  (fun x=>x.1≤c.ddt.length∧0≤x.2∧x.2+sumEc (c.ddt.drop x.1)=T∧(((c.ddt.drop x.1).all fun e=>decide ((refsB e.ea c.sets:Int)=e.ec)) && decide (T=(nnS c.sets:Int)))=R) (0,0) (by simp[hT,← hR,cntOkB]) ?_
 rintro⟨i,n⟩ ⟨hi,hn0,hs,ha⟩
 simp only at hi hn0 hs ha
 cases hr:c.ddt.drop i with
 | nil =>
  have:=dropn hr
  rw[hr]at hs ha
  have hie:i=c.ddt.length:=by omega
  simp[sumEc]at hs ha
  simp -implicitDefEqProofs [hie]
  refine ev_lp (X:=Nat×Int) [1,3,5] [(1,1)] (fun x=>[(5,.int .i64 x.1),(3,.int .i64 x.2)]) (fun _=>[]) (fun x=>c.sets.length-x.1)
   (fun x=>x.1≤c.sets.length∧x.2-nnS (c.sets.drop x.1)=T-nnS c.sets∧x.2≤T∧-(8 * x.1:Int)≤x.2) (0,n) (by simp;omega) ?_
  rintro⟨j,m⟩ ⟨hj,hm,hm2,hm3⟩
  simp only at hj hm hm2 hm3
  cases hq:c.sets.drop j with
  | nil =>
   have:=dropn hq
   have hje:j=c.sets.length:=by omega
   rw[hq]at hm
   simp[nnS,qan,nnN]at hm ha
   simp -implicitDefEqProofs [hje]
   rw[← ha]
   exact decide_eq_decide.2 (by omega)
  | cons x r =>
   obtain⟨h1,e0,e1,h3⟩:=dropc hq
   have hx8:=h8 x (List.mem_of_getElem? e1)
   have hrl:=qay x hx8
   rw[hq,nnS_cons]at hm
   have e2:=i64w ((j:Int)+1) (by omega) (by omega)
   simp -implicitDefEqProofs [h1]
   refine ev_lp (X:=Nat×Int) [1,3,5,6] [(1,1)] (fun y=>[(6,.int .i64 y.1),(3,.int .i64 y.2)]) (fun _=>[]) (fun y=>8-y.1) (fun y=>y.1≤8∧y.2-nnN (x.map.drop y.1)-nnS r=T-nnS c.sets∧y.2≤T∧-(8 * j+y.1:Int)≤y.2) (0,m) (by simp;omega) ?_
   rintro⟨k,q⟩ ⟨hk,hq1,hq2,hq3⟩
   simp only at hk hq1 hq2 hq3
   by_cases h2:k<8
   ·obtain⟨p,f1⟩:∃ p,x.map[k]?=some p:=⟨_,List.getElem?_eq_getElem (by omega)⟩
    rw[dropAt f1,nnN_cons]at hq1
    have e3:=i64w ((k:Int)+1) (by omega) (by omega)
    have e4:=i64w (q-1) (by omega) (by omega)
    have h2':(k:Int)<8:=by omega
    have h2'':3+k * 3<31:=by omega
    simp -implicitDefEqProofs [h1,e0,h2',hrl,cs_at' x f1,h2'']
    refine⟨by omega,?_⟩
    repeat' first
     | with_reducible intro _
     | with_reducible refine And.intro ?_ ?_
    all_goals first
     | exact nx (k+1,q-1) [(1,1)] (by simp only;grind) (h4:=by simp[e3,e4])
     | exact nx (k+1,q) [(1,1)] (by simp only;grind) (h4:=by simp[e3])
   ·have:k=8:=by omega
    subst this
    simp -implicitDefEqProofs [e2]
    simp[nnN,← hx8]at hq1
    exact nx (j+1,q) [(1,1)] ⟨by simp only;omega,by simp only[h3];omega,hq2,by simp only;omega⟩
 | cons x r =>
  obtain⟨h1,e0,e1,h3⟩:=dropc hr
  rw[hr]at hs ha
  have hxe:=hec x (List.mem_of_getElem? e1)
  obtain⟨hr1,hr2⟩:=sumEc_le r fun e he=>hec e (List.mem_of_mem_drop (i:=i) (by rw[hr];exact List.mem_cons_of_mem _ he))
  simp only[sumEc]at hs
  have e2:=i64w ((i:Int)+1) (by omega) (by omega)
  have e3:=i64w (n+x.ec) (by omega) (by omega)
  simp -implicitDefEqProofs [h1,e0]
  refine(refsC c x.ea hl h8).call ?_
  simp -implicitDefEqProofs [h1,e0,e2,e3]
  repeat' first
   | with_reducible intro _
   | with_reducible refine And.intro ?_ ?_
  all_goals first
   | exact nx (i+1,n+x.ec) [(1,1)] (by simp only;grind)
   | grind
end Go.Av.F

end
section
namespace Go.Av.F
open Go Go.Av Go.Proofs Go.Proofs.Tryz
def ptSumB (l:List DE) (p:PT):Bool:=decide (p.pa≤0) || (ddT l p.pa && (match l[ddP l p.pa]? with
 | some e=>e.es == p.ps
 | none=>false))
def sumOkB (c:CO):Bool:=(qan c.sets).all (ptSumB c.ddt)
theorem ddT_some {l:List DE} {a:Int} (h:ddT l a=true):∃ e,l[ddP l a]?=some e∧e.ea=a:=by
 unfold ddT bsT at h
 cases hx:l[bsK (fun e=>e.ea-a) l]? with
 | none=>rw[hx]at h;cases h
 | some e=>rw[hx]at h;simp at h;exact⟨e,rfl,by omega⟩
theorem sumsC (c:CO) (hl:c.sets.length≤1048576) (hd:c.ddt.length≤48) (h8:∀ s∈c.sets,s.map.length=8):CV prog 45 [.agg c.row] (.bool (sumOkB c)):=by
 obtain⟨R,hR⟩:∃ R,sumOkB c=R:=⟨_,rfl⟩
 rw[hR]
 refine cvx func45 [(9,[zI 0,zJ 1 [5] [],zI 2,zI 3,zI 4,zI 5,zI 6,zI 7,zJ 8 [1] [],zJ 9 [] [1],zI 10,zI 11,zI 12,zJ 13 [] [1],zJ 14 [5] [1],zI 15,zI 16,zI 17])] ntmps45 rfl rfl rfl ?_
 simp -implicitDefEqProofs
 refine ev_lp (X:=Nat) [1,3] [(1,1)] (fun i=>[(3,.int .i64 i)]) (fun _=>[]) (fun i=>c.sets.length-i) (fun i=>i≤c.sets.length∧(qan (c.sets.drop i)).all (ptSumB c.ddt)=R) 0 (by simp[← hR,sumOkB]) ?_
 rintro i ⟨hi,ha⟩
 cases hr:c.sets.drop i with
 | nil =>
  have:=dropn hr
  rw[hr]at ha
  have hie:i=c.sets.length:=by omega
  simp[qan]at ha
  simp -implicitDefEqProofs [hie,ha]
 | cons x r =>
  obtain⟨h1,e0,e1,h3⟩:=dropc hr
  have hx8:=h8 x (List.mem_of_getElem? e1)
  have hrl:=qay x hx8
  rw[hr]at ha
  have ha':(x.map.all (ptSumB c.ddt) && (qan r).all (ptSumB c.ddt))=R:=by rw[← ha];simp[qan]
  have e2:=i64w ((i:Int)+1) (by omega) (by omega)
  simp -implicitDefEqProofs [h1]
  refine ev_lp (X:=Nat) [1,3,4] [(1,1)] (fun j=>[(4,.int .i64 j)]) (fun _=>[]) (fun j=>8-j) (fun j=>j≤8∧((x.map.drop j).all (ptSumB c.ddt) && (qan r).all (ptSumB c.ddt))=R) 0 (by simpa using ha') ?_
  rintro j ⟨hj,hm⟩
  by_cases h2:j<8
  ·obtain⟨p,f1⟩:∃ p,x.map[j]?=some p:=⟨_,List.getElem?_eq_getElem (by omega)⟩
   rw[dropAt f1]at hm
   have e3:=i64w ((j:Int)+1) (by omega) (by omega)
   have h2':(j:Int)<8:=by omega
   have h2'':3+j * 3≤28:=by omega
   simp -implicitDefEqProofs [h1,e0,h2',hrl,cs_map x f1]
   refine⟨by omega,(l5AtC c.ddt p.pa (by omega)).call ?_⟩
   cases hT:ddT c.ddt p.pa with
   | true =>
    obtain⟨e,he,hea⟩:=ddT_some hT
    obtain⟨hk,hk0⟩:=List.getElem?_eq_some_iff.1 he
    have hps:ptSumB c.ddt p=(decide (p.pa≤0) || (e.es == p.ps)):=by simp[ptSumB,hT,he]
    simp -implicitDefEqProofs [hk,hk0]
    repeat' first
     | with_reducible intro _
     | with_reducible refine And.intro ?_ ?_
    all_goals first
     | exact nx (j+1) [(1,1)] (by grind) (h4:=by simp[e3])
     | grind
   | false =>
    have hps:ptSumB c.ddt p=decide (p.pa≤0):=by simp[ptSumB,hT]
    simp -implicitDefEqProofs
    repeat' first
     | with_reducible intro _
     | with_reducible refine And.intro ?_ ?_
    all_goals first
     | exact nx (j+1) [(1,1)] (by grind) (h4:=by simp[e3])
     | grind
  ·have:j=8:=by omega
   subst this
   simp -implicitDefEqProofs [e2]
   simp[← hx8]at hm
   exact nx (i+1) [(1,1)] ⟨by omega,by rw[h3];grind⟩
theorem rowPT:RowT PT.row 25 40 3:=⟨tt25,⟨_,_,_,tt40⟩,by simp⟩
theorem rowCS:RowT CS.row 23 43 31:=⟨tt23,⟨_,_,_,tt43⟩,cs_cl⟩
theorem contPt (p:PT→Bool) (g:Nat) (l:List PT) (hl:l.length≤9000000) (hg:∀ x∈l,CV prog g [.agg x.row] (.bool (p x))):CV prog 30 [.lst 3 (l.map PT.row),.fn g []] (.bool (l.any p)):=by
 have key:CV prog 60 [.lst 3 (l.map PT.row),.fn g []] (.int .i64 (ixR p 0 l)):=by
  refine cvx func60 [] ntmps60 rfl rfl rfl ?_
  exact ix_ev rowPT p l hl (by simp) hg
 refine cvx func30 [] ntmps30 rfl rfl rfl ?_
 simp -implicitDefEqProofs
 refine key.call ?_
 simp -implicitDefEqProofs [ixR_ge]
theorem idxCs (p:CS→Bool) (g:Nat) (l:List CS) (hl:l.length≤9000000) (h8:∀ s∈l,s.map.length=8) (hg:∀ x∈l,CV prog g [.agg x.row] (.bool (p x))):CV prog 17 [.lst 31 (l.map CS.row),.fn g []] (.int .i64 (ixR p 0 l)):=by
 refine cvx func17 [] ntmps17 rfl rfl rfl ?_
 exact ix_ev rowCS p l hl (fun x hx=>qay x (h8 x hx)) hg
theorem contCs (p:CS→Bool) (g:Nat) (l:List CS) (hl:l.length≤9000000) (h8:∀ s∈l,s.map.length=8) (hg:∀ x∈l,CV prog g [.agg x.row] (.bool (p x))):CV prog 33 [.lst 31 (l.map CS.row),.fn g []] (.bool (l.any p)):=by
 refine cvx func33 [] ntmps33 rfl rfl rfl ?_
 simp -implicitDefEqProofs
 refine(idxCs p g l hl h8 hg).call ?_
 simp -implicitDefEqProofs [ixR_ge]
theorem setOk1 (p:PT):CV prog 63 [.agg p.row] (.bool (!ptOkB p)):=by
 refine cvx func63 [] ntmps63 rfl rfl rfl ?_
 simp -implicitDefEqProofs
 refine(iPtrOkC p).call ?_
 simp -implicitDefEqProofs
theorem iName (s:List UInt8) (hs:s.length≤1048576):CV prog 62 [.str s] (.bool (nameB s)):=cv_of (ibookName s (by omega))
theorem cs_chunks (s:CS) (h8:s.map.length=8):chunks 3 8 (List.drop 3 s.row)=s.map.map PT.row:=by
 obtain⟨n,k,f,m,h,d⟩:=s
 simp only at h8
 match m,h8 with
 | [p0,p1,p2,p3,p4,p5,p6,p7],_=>rfl
theorem iSetC (s:CS) (h8:s.map.length=8) (hn:s.name.length≤1048576) (hf:s.frm.length≤1048576):CV prog 35 [.agg s.row] (.bool (csOkB s)):=by
 obtain⟨R,hR⟩:∃ R,csOkB s=R:=⟨_,rfl⟩
 have hl:=qay s h8
 have hh:=cs_home s h8
 have hany:(s.map.any fun p=>!ptOkB p)=!(s.map.all ptOkB):=by rw[List.not_all_eq_any_not]
 refine cvx func35 [] ntmps35 rfl rfl rfl ?_ (hca:=by simp[cs_cl])
 simp -implicitDefEqProofs [hl]
 refine(iName _ hn).call ?_
 simp -implicitDefEqProofs [hl,hh]
 repeat' first
  | (refine(iName _ hf).call ?_;simp -implicitDefEqProofs [hl,hh])
  | (refine(iPtrOkC _).call ?_;simp -implicitDefEqProofs)
  | (refine(contPt (fun p=>!ptOkB p) _ s.map (by omega) (fun x _=>setOk1 x)).view (by simp[cs_chunks s h8,vwOk,mtA]) ?_;simp -implicitDefEqProofs)
  | with_reducible intro _
  | with_reducible refine And.intro ?_ ?_
 all_goals grind[csOkB]
end Go.Av.F

end
