/- Lemmas for the proof, no statement of the seat; no conditions. -/
import Derived.Test.YthiidgicibfbjaaGreatDoorLayAU
set_option linter.unusedSimpArgs false
set_option linter.unusedVariables false
set_option linter.unnecessarySimpa false
set_option maxRecDepth 100000
section
namespace Go.Av.F
open Go Go.Av Go.Proofs Go.Proofs.Tryz
theorem qkG {q:Int}:∀ {l:List DE},(∀ e∈l,q<e.ea∧qca e=true)→l.Pairwise (fun a b=>a.ea<b.ea)→qgh q l=true
 | [],_,_=>rfl
 | x::r,h,hp=>by
  rw[qHo]at hp;have hx:=h x (by simp);simp only[qgh,Bool.and_eq_true,decide_eq_true_eq];exact⟨⟨hx.2,hx.1⟩,qkG (fun e he=>⟨hp.1 e he,(h e (by simp[he])).2⟩) hp.2⟩
theorem qg0 {q:Int}:∀ {l:List DE},qgh q l=true→l.Pairwise (fun a b=>a.ea<b.ea)
 | [],_=>.nil
 | x::r,h=>by
  simp only[qgh,Bool.and_eq_true,decide_eq_true_eq]at h;rw[qHo];exact⟨fun e he=>((qch h.2).1 e he).1,qg0 h.2⟩
theorem ql6 {l:List DE} (h:qak l=true) (a:Int):(∀ e∈l.take (ddP l a),e.ea<a)∧(∀ e∈l.drop (ddP l a),a≤e.ea):=by
 simp only[qak,Bool.and_eq_true,decide_eq_true_eq]at h;obtain⟨h1,h2⟩:=qch h.2;have hu:UpC (fun e:DE=>e.ea-a) l:=fun i j x y hij hx hy hc=>by
  have:=h2 i j x y hij hx hy
  first | omega | (simp only at hc ⊢;omega)
 refine⟨fun e he=>?_,fun e he=>?_⟩
 ·obtain⟨i,hi⟩:=qHk.1 he;rw[qEi]at hi;split at hi
  ·rename_i hlt;rcases Int.lt_or_le (e.ea-a) 0 with h3 | h3
   ·omega
   ·have:=qjL (c:=fun e:DE=>e.ea-a) hi (by simpa using h3);unfold ddP at hlt;omega
  ·cases hi
 ·obtain⟨i,hi⟩:=qHk.1 he;rw[qEP]at hi;rcases Int.lt_or_le (e.ea-a) 0 with h3 | h3
  ·have:=qmg hu hi h3;unfold ddP at this;omega
  ·omega
theorem qkI {l:List DE} (h:qak l=true) {a:Int} (hT:ddT l a=false):∀ e∈l,e.ea≠a:=by
 intro e he hea;have hs:=ql6 h a;rw[← qEu (ddP l a) l]at he;rcases qFQ.1 he with he | he
 ·have:=hs.1 e he;omega
 ·unfold ddT bsT at hT;obtain⟨i,hi⟩:=qHk.1 he;rw[qEP]at hi;simp only[qak,Bool.and_eq_true,decide_eq_true_eq]at h;obtain⟨h1,h2⟩:=qch h.2;cases hx:l[bsK (fun e=>e.ea-a) l]? with
  | none =>
   have:=qHl.1 hx;have:=(qEW.1 hi).1;unfold ddP at *
   omega
  | some y =>
   rw[hx]at hT;have hy:y.ea≠a:=by
    intro e;simp[e]at hT
   have hm:y∈l.drop (ddP l a):=qHk.2 ⟨0,by rw[qEP];exact hx⟩;have h3:=hs.2 y hm;by_cases hi0:i=0
   ·subst hi0;rw[qFm]at hi;unfold ddP at hi;rw[hx]at hi;injection hi with hi;exact hy (hi ▸ hea)
   ·have:=h2 (ddP l a) (ddP l a+i) y e (by omega) hx hi;omega
theorem qoy {l:List DE} (h:qak l=true) {k:Nat} {e e':DE} (he:l[k]?=some e) (h1:e'.ea=e.ea) (h2:qca e'=true):qak (l.set k e')=true:=by
 simp only[qak,Bool.and_eq_true,decide_eq_true_eq,qFd]at h ⊢;refine⟨h.1,?_⟩;have hp:=qg0 h.2;obtain⟨g1,_⟩:=qch h.2;refine qkG (fun x hx=>?_) ?_
 ·rcases qHi hx with hx | rfl
  ·exact g1 x hx
  ·exact⟨by rw[h1];exact(g1 e (qGj he)).1,h2⟩
 ·have hm:(l.set k e').map DE.ea=l.map DE.ea:=by
   rw[qGv,h1];apply qGO;intro i;rw[qFn];split
   ·rename_i hki;subst hki;split
    ·simp[he]
    ·rename_i hlt;exact absurd (by simpa using (qEW.1 he).1) hlt
   ·rfl
  have e1:(l.map DE.ea).Pairwise (· < ·):=List.pairwise_map.2 hp;rw[← hm]at e1;exact List.pairwise_map.1 e1
theorem qoz {l:List DE} (h:qak l=true) {s a:Int} (ho:(qbY l s a).2=true):qak (qbY l s a).1=true:=by
 have h':=h;simp only[qak,Bool.and_eq_true,decide_eq_true_eq]at h';have hp:=qg0 h'.2;obtain⟨g1,_⟩:=qch h'.2;unfold qbY at ho ⊢;rw[if_neg (by simp[h])]at ho ⊢;cases hen:qca ⟨s,a,1⟩with
 | false=>rw[if_pos hen]at ho;cases ho
 | true =>
  rw[if_neg (by simp[hen])]at ho ⊢;cases hT:ddT l a with
  | true =>
   rw[if_pos hT]at ho;rw[if_pos rfl];cases he:l[ddP l a]? with
   | none=>rw[he]at ho;cases ho
   | some e =>
    rw[he]at ho;simp only at ho ⊢;by_cases hq:e.es≠s∨e.ec=1000
    ·rw[if_pos hq]at ho;cases ho
    ·rw[if_neg hq];refine qoy h he rfl ?_;have:=(g1 e (qGj he)).2;simp only[qca,Bool.and_eq_true,decide_eq_true_eq]at this ⊢;omega
  | false =>
   rw[if_neg (by simp[hT])]at ho;rw[if_neg (by simp)];by_cases hl:l.length=48
   ·rw[if_pos hl]at ho;cases ho
   ·rw[if_neg hl];have hs:=ql6 h a;have hne:=qkI h hT;have hsp:=qEu (ddP l a) l;have hp2:(l.take (ddP l a)++l.drop (ddP l a)).Pairwise (fun a b=>a.ea<b.ea):=by rw[hsp];exact hp
    rw[qHp]at hp2;have hk:=ql7 l a;simp only[qak,Bool.and_eq_true,decide_eq_true_eq];refine⟨by simp;omega,qkG (fun x hx=>?_) ?_⟩
    ·rcases qFQ.1 hx with hx | hx
     ·exact g1 x (qGe hx)
     ·rcases qFO.1 hx with rfl | hx
      ·simp only[qca,Bool.and_eq_true,decide_eq_true_eq]at hen;exact⟨by simp only;omega,by simp[qca];omega⟩
      ·exact g1 x (qGH hx)
    ·rw[qHp,qHo];refine⟨hp2.1,⟨fun y hy=>?_,hp2.2.1⟩,fun x hx y hy=>?_⟩
     ·have:=hs.2 y hy;have:=hne y (qGH hy);simp only;omega
     ·rcases qFO.1 hy with rfl | hy
      ·exact hs.1 x hx
      ·exact hp2.2.2 x hx y hy
theorem ql8 {l:List DE} (h:qak l=true) {a:Int} (ho:(qbk l a).2=true):qak (qbk l a).1=true:=by
 have h':=h;simp only[qak,Bool.and_eq_true,decide_eq_true_eq]at h';have hp:=qg0 h'.2;obtain⟨g1,_⟩:=qch h'.2;unfold qbk at ho ⊢;rw[if_neg (by simp[h])]at ho ⊢;cases hT:ddT l a with
 | false=>rw[if_pos hT]at ho;cases ho
 | true =>
  rw[if_neg (by simp[hT])]at ho;rw[if_neg (by simp)];cases he:l[ddP l a]? with
  | none=>rw[he]at ho;cases ho
  | some e =>
   simp only;by_cases hq:e.ec=1
   ·rw[if_pos hq];have hsub:(l.take (ddP l a)++l.drop (ddP l a+1)).Sublist l:=by
     conv=>rhs;rw[← qEu (ddP l a) l]
     refine List.Sublist.append (List.Sublist.refl _) ?_;rw[← qEA];exact List.drop_sublist _ _
    have hl:=hsub.length_le;simp only[qak,Bool.and_eq_true,decide_eq_true_eq];exact⟨by omega,qkG (fun x hx=>g1 x (hsub.subset hx)) (hp.sublist hsub)⟩
   ·rw[if_neg hq];refine qoy h he rfl ?_;have:=(g1 e (qGj he)).2;simp only[qca,Bool.and_eq_true,decide_eq_true_eq]at this ⊢;omega
theorem qqG {l:List DE} (h:qak l=true) {more:Bool} {p:PT} (ho:(qho more l p).2=true):qak (qho more l p).1=true:=by
 unfold qho at ho ⊢;split
 ·rename_i e;rw[if_pos e]at ho;exact qoz h ho
 ·rename_i e;rw[if_neg e]at ho;exact ql8 h ho
theorem qfT (more:Bool):∀ (m:List PT) (l:List DE) (b:Bool),(qbG more m (l,b,false)).2.2=false
 | [],l,b=>rfl
 | p::q,l,b=>by
  simp only[qbG];split
  ·exact qfT more q l b
  ·simp only[qHq];exact qfT more q _ true
theorem qj9 (more:Bool):∀ (m:List PT) (l:List DE) (b:Bool),qak l=true→(qbG more m (l,b,true)).2.2=true→qak (qbG more m (l,b,true)).1=true
 | [],l,b,h,_=>h
 | p::q,l,b,h,ho=>by
  simp only[qbG]at ho ⊢;split
  ·rename_i e;rw[if_pos e]at ho;exact qj9 more q l b h ho
  ·rename_i e;rw[if_neg e]at ho;simp only[qGE]at ho ⊢;cases hq:(qho more l p).2 with
   | false=>rw[hq,qfT]at ho;cases ho
   | true =>
    rw[hq]at ho;exact qj9 more q _ true (qqG h hq) ho
def qcp (c:CO) (i1 i2:Nat):List (Nat×Ob):=[(1000,⟨7,[[.int .i64 c.txg,.sl i1 0 c.sets.length,.sl i2 0 c.ddt.length,.sl 1003 0 c.parts.length,.bool c.dirty,.sl 1004 0 c.safe.length,.int .i64 c.logn]]⟩),(i1,kcs c.sets),(i2,qaR c.ddt),(1003,kpt c.parts),(1004,kin c.safe)]
def qDx (xs:List Nat) (c:CO) (R:List DE×Bool×Bool) (r:AV) (L':List (Nat×Ob)):Prop:=∃ l b i2,i2∈xs∧r=.bool R.2.2∧L'=qcp ⟨c.txg,c.sets,l,c.parts,b,c.safe,c.logn⟩ 1001 i2∧(R.2.2=true→l=R.1∧b=R.2.1)
theorem qrx (c:CO) (hd:qak c.ddt=true) (m:List PT) (hm:∀ p∈m,0≤p.pa∧p.pa≤1000) (hml:m.length≤1000) (more:Bool) :
  ACall prog 223 [.ptr 1000 0 0,.lst 3 (m.map PT.row),.bool more] (qcp c 1001 1002) (qDx [902] c (qbG more m (c.ddt,c.dirty,true))):=by
 obtain⟨R,hR⟩:∃ R,qbG more m (c.ddt,c.dirty,true)=R:=⟨_,rfl⟩;rw[hR];have key:ACall prog 223 [.ptr 1000 0 0,.lst 3 (m.map PT.row),.bool more] (qcp c 1001 1002) (qDx [902,33,46] c R):=by
  refine acx func223 [(8,[zI 0,zI 1,zI 2,zI 3,zJ 4 [1000] [],zJ 5 [] [1000],zJ 6 [8] [1000],zJ 7 [] [1000,8],zJ 8 [8] [1000,8],zJ 9 [902] [],zI 10,zI 11,zI 12,zI 13,zI 14,zI 15,zI 16]),(9,[zI 0,zI 1,zI 2,zI 3,zJ 4 [1000] [],zJ 5 [] [1000],zJ 6 [8] [1000],zJ 7 [902] [],zI 8,zI 9,zI 10,zI 11,zI 12,zI 13,zI 14])] ntmps223 rfl rfl rfl ?_ (hL:=by simp[qcp]);simp[qcp];refine qbj (X:=Nat×List DE×Bool) [0,2,10,11,12] [(1000,1000),(1001,1001),(1002,902),(1003,1003),(1004,1004)] (fun x=>[(12,.int .i64 x.1)]) (fun x=>qcp ⟨c.txg,c.sets,x.2.1,c.parts,x.2.2,c.safe,c.logn⟩ 1001 902) (fun x=>m.length-x.1)
   (fun x=>x.1≤m.length∧qak x.2.1=true∧qbG more (m.drop x.1) (x.2.1,x.2.2,true)=R) (0,c.ddt,c.dirty) ⟨by simp,hd,by simpa using hR⟩ ?_ (he:=by simp[qag,qcp])
  rintro⟨i,l,b⟩ ⟨hi,hok,hx⟩;simp only at hi hok hx;cases hr:m.drop i with
  | nil =>
   have:=qaY hr;rw[hr]at hx;have hie:i=m.length:=by omega
   subst hie;simp only[qbG]at hx;simp[qag,qcp];exact⟨qcp ⟨c.txg,c.sets,l,c.parts,b,c.safe,c.logn⟩ 1001 902,by simp[qcp],l,b,902,by simp,by rw[← hx],rfl,fun _=>by rw[← hx];exact⟨rfl,rfl⟩⟩
  | cons p q =>
   obtain⟨k1,e0,e1,k3⟩:=qaZ hr;rw[hr]at hx;have hpm:=hm p (qGj e1);have e2:=qao ((i:Int)+1) (by omega) (by omega);have hli:(i:Int)<m.length:=by omega
   by_cases h0:p.pa=0
   ·rw[qbG,if_pos h0]at hx;simp[qag,qcp,k1,e0,e1,hli,PT.row,h0];exact nx (i+1,l,b) [(1000,1000),(1001,1001),(902,902),(1003,1003),(1004,1004)] ⟨by simp only;omega,hok,by simp only[k3];exact hx⟩ (by simp only;omega) (h4:=by simp[qag,e2,qcp])
   ·rw[qbG,if_neg h0]at hx;simp only[qGE]at hx;have hrok:=@qqG l hok more p;cases more with
    | true =>
     have c1:=qCQ l hok p.ps p.pa;simp only[qho,if_true]at hx hrok;generalize qbY l p.ps p.pa=W at *
     obtain⟨l',o⟩:=W;simp only at hx hrok;simp[qag,qcp,k1,e0,e1,hli,PT.row,h0];refine qaJ [] (by kernel_rfl) c1 (by simp[qbW,mtA,qaR,qal,DE.row]) (by simp) trivial (by simp) (by simp) ?_;rintro r L' ⟨rfl,rfl⟩;refine⟨by simp,by simp[qaR,DE.row],[(900,33)],⟨by simp,by simp,by simp,by simp,by simp⟩,?_⟩;simp only[qaf];simp;cases o with
     | false =>
      have hno:=qfT true q l' true;rw[hx]at hno;simp;exact⟨qcp ⟨c.txg,c.sets,l',c.parts,true,c.safe,c.logn⟩ 1001 33,by simp[qcp],l',true,33,by simp,by rw[hno],rfl,fun e=>by rw[hno]at e;cases e⟩
     | true =>
      simp;exact nx (i+1,l',true) [(1000,1000),(1001,1001),(33,902),(1003,1003),(1004,1004)] ⟨by simp only;omega,hrok rfl,by simp only[k3];exact hx⟩ (by simp only;omega) (h4:=by simp[qag,e2,qcp])
    | false =>
     have c1:=qAf l hok p.pa hpm;simp only[qho,qEl,if_false]at hx hrok;generalize qbk l p.pa=W at *
     obtain⟨l',o⟩:=W;simp only at hx hrok;simp[qag,qcp,k1,e0,e1,hli,PT.row,h0];refine qaJ [] (by kernel_rfl) c1 (by simp[qbW,mtA,qaR,qal,DE.row]) (by simp) trivial (by simp) (by simp) ?_;rintro r L' ⟨rfl,rfl⟩;refine⟨by simp,by simp[qaR,DE.row],[(900,46)],⟨by simp,by simp,by simp,by simp,by simp⟩,?_⟩;simp only[qaf];simp;cases o with
     | false =>
      have hno:=qfT false q l' true;rw[hx]at hno;simp;exact⟨qcp ⟨c.txg,c.sets,l',c.parts,true,c.safe,c.logn⟩ 1001 46,by simp[qcp],l',true,46,by simp,by rw[hno],rfl,fun e=>by rw[hno]at e;cases e⟩
     | true =>
      simp;exact nx (i+1,l',true) [(1000,1000),(1001,1001),(46,902),(1003,1003),(1004,1004)] ⟨by simp only;omega,hrok rfl,by simp only[k3];exact hx⟩ (by simp only;omega) (h4:=by simp[qag,e2,qcp])
 refine key.can ?_;rintro r L' ⟨l,b,i2,h2,rfl,rfl,hq⟩;refine⟨[(1000,1000),(1001,1001),(i2,902),(1003,1003),(1004,1004)],?_,?_,?_,?_,l,b,902,by simp,by simp,?_,hq⟩
 all_goals
  simp only[qFO,qFX,or_false]at h2;rcases h2 with rfl | rfl | rfl
 all_goals simp[qcp,qag]
theorem qz9 (s:CS) (h8:s.map.length=8) (n:List UInt8):CV prog 290 [.agg s.row,.str n] (.int .i64 (Lib.compareBytes s.name n)):=by
 have c1:=qhu (qoE s.name n);have hs0:s.row[0]?=some (.str s.name):=rfl;refine cvx func290 [] ntmps290 rfl rfl rfl ?_ (hca:=by simp[qbO]);simp[qaV s h8,hs0];refine c1.call ?_;simp
theorem qzK (l:List CS) (n:List UInt8):bsK (fun s:CS=>Lib.compareBytes s.name n) l=nmP l n:=by
 unfold bsK nmP
 congr 2
 funext s
 exact qkR s.name n
theorem qvO {l:List CS} (h:Srt (l.map csB)) (n:List UInt8):UpC (fun s:CS=>Lib.compareBytes s.name n) l:=by
 intro i j a b hij ha hb hc;have h1:=h i j (csB a) (csB b) hij (by simp[ha]) (by simp[hb]);have h2:Op.bytesLess b.name n=true:=by rw[← qkR];simpa using hc
 have h3:=qhT (a:=a.name) (b:=b.name) (c:=n) h1 h2;rw[← qkR]at h3;simpa using h3
theorem qwZ (l:List CS) (h8:∀ s∈l,s.map.length=8) (hl:l.length≤1048576) (hS:Srt (l.map csB)) (n:List UInt8) :
  CV prog 289 [.lst 31 (l.map CS.row),.str n,.fn 290 []] (.tup [.int .i64 (nmP l n:Nat),.bool (bsT (fun s:CS=>Lib.compareBytes s.name n) l)]):=by
 rw[← qzK];refine cvx func289 [] ntmps289 rfl rfl rfl ?_;exact qAK qzh qoI (fun s:CS=>Lib.compareBytes s.name n) l (by omega) (fun x hx=>qaV x (h8 x hx)) (qvO hS n) (by simp) fun x hx=>qz9 x (h8 x hx) n
theorem qCG (c:CO) (h8:∀ s∈c.sets,s.map.length=8) (hl:c.sets.length≤1048576) (hS:Srt (c.sets.map csB)) (n:List UInt8) :
  ACall prog 222 [.ptr 1000 0 0,.str n] (qcp c 1001 1002) (fun r L'=>r=.int .i64 (nmP c.sets n:Nat)∧L'=qcp c 1001 1002):=by
 have c1:=qwZ c.sets h8 hl hS n;refine acx func222 [] ntmps222 rfl rfl rfl ?_ (hL:=by simp[qcp]);simp[qcp];refine c1.view (by simp[qbW,mtA,kcs,qal,qbO]) ?_;simp
def qfB (d:DK) (c:CO) (up:Bool) (a0 a1 a2 b0 b1 b2 b3:Nat):List AV:=[.sl a0 0 d.s0.length,.sl a1 0 d.s1.length,.sl a2 0 d.late.length,.int .i64 c.txg,.sl b0 0 c.sets.length,.sl b1 0 c.ddt.length,.sl b2 0 c.parts.length,.bool c.dirty,.sl b3 0 c.safe.length,.int .i64 c.logn,.bool up]
def qdI (d:DK) (c:CO) (up:Bool) (a0 a1 a2 b0 b1 b2 b3:Nat):List (Nat×Ob):=[(1000,⟨11,[qfB d c up a0 a1 a2 b0 b1 b2 b3]⟩),(a0,qai d.s0),(a1,qai d.s1),(a2,qbU d.late),(b0,kcs c.sets),(b1,qaR c.ddt),(b2,kpt c.parts),(b3,kin c.safe)]
def ptS (D:DK) (c:CO) (up:Bool) (op:BO) (n:Nat) (now:PT):S :=
 ⟨mkT [(0,.ptr 1000 0 0),(3,.ptr 3 0 0),(4,.int .i64 0),(5,.ptr 1000 0 3),(6,.int .i64 n),(7,.ptr 7 0 0)],qaG ((3,⟨5,[op.row]⟩)::(7,⟨3,[now.row]⟩)::qdI D c up 1001 1002 903 1004 1005 1006 1007),Us.of [1000,1001,1002,1003,1004,1005,1006,1007,3,7,1000,1001,1002,903,1004,1005,1006,1007]⟩
def puQ (xs ys:List Nat) (R:DK×CO×Int) (up:Bool) (r:AV) (L':List (Nat×Ob)):Prop:=∃ d' c' i3 i5,i3∈xs∧i5∈ys∧r=.int .i64 R.2.2∧L'=qdI d' c' up 1001 1002 i3 1004 i5 1006 1007∧(R.2.2=0→d'=R.1∧c'=R.2.1)
theorem qlA (more:Bool) (p:PT) (l:List DE) (b:Bool):qbG more (qhs p) (l,b,true)=qbG more [p] (l,b,true):=by
 have e:∀ (q:List PT) x,qbG more (p::q) x=if p.pa=0 then qbG more q x else qbG more q ((qho more x.1 p).1,true,x.2.2 && (qho more x.1 p).2):=fun q x=>rfl
 unfold qhs;rw[e,e];split <;> rfl
theorem qlW (d:DK) (text:List UInt8):∀ (l:List DE),qgT d text l=0∨∃ e∈l,e.ea=qgT d text l
 | []=>.inl rfl
 | e::r=>by
  simp only[qgT];split
  ·exact .inr ⟨e,by simp,rfl⟩
  ·rcases qlW d text r with h | ⟨x,hx,h⟩
   ·exact .inl h
   ·exact .inr ⟨x,by simp[hx],h⟩
theorem qpe (d:DK) (l:List DE) (text:List UInt8):qdL d l text=0∨(1≤qdL d l text∧qdL d l text<120):=by
 unfold qdL;split
 ·rename_i h;simp only[qak,Bool.and_eq_true,decide_eq_true_eq]at h;rcases qlW d text l with h2 | ⟨x,hx,h2⟩
  ·exact .inl h2
  ·have:=((qch h.2).1 x hx).2;simp only[qca,Bool.and_eq_true,decide_eq_true_eq]at this;omega
 ·exact .inl rfl
theorem qu3 {a b:Int} (t:List UInt8) (ha:1≤a∧a<120) (hb:0≤b∧b≤1000000):(qbI a t b).pa=a:=by
 have hs:=qug t;have h1:qaI ⟨a,smB t,b⟩=true:=by
  unfold qaI;rw[if_neg (by simp only;omega)];simp only[Bool.and_eq_true,decide_eq_true_eq];omega
 unfold qbI;rw[if_neg (by simp[h1];omega)]
theorem qtE {c:CO} (h:qap c=true) {s:CS} (hs:s∈c.sets):qbl s=true:=by
 simp only[qap,Bool.and_eq_true,qED]at h;exact h.1.1.1.1.2 s hs
theorem qtB {s:CS} (h8:s.map.length=8) {i:Nat} {p:PT} (h:s.map[i]?=some p):List.take 3 (List.drop (3+i * 3) s.row)=p.row:=by
 have h1:=qiF h;have hi:=(qEW.1 h).1;rw[← qhR s h8,qFG,qFI,qFH (by omega),qEA]at h1;exact h1
theorem qAa (d:DK) (hd:qbw d=true) (c:CO) (h:CoT c) (hc:qap c=true) (up:Bool) (op:BO) (hk:nmP c.sets op.a<c.sets.length) (hi:0≤op.i∧op.i<8) (ht:op.text.length≤1000) :
  ACall prog 109 [.ptr 1000 0 0,.agg op.row] (qdI d c up 1001 1002 1003 1004 1005 1006 1007) (puQ [903] [905] (qcL d c (nmP c.sets op.a) op.i.toNat op.text) up):=by
 obtain⟨hm,k1,k2,k3,k4,k5,k6,k7⟩:=qb1 hc;obtain⟨g1,g2,g3,g4,_⟩:=qbs hd;obtain⟨R,hR⟩:∃ R,qcL d c (nmP c.sets op.a) op.i.toNat op.text=R:=⟨_,rfl⟩;rw[hR];unfold qcL at hR;obtain⟨s,e1⟩:∃ s,c.sets[nmP c.sets op.a]?=some s:=⟨_,qEq hk⟩;have e0:=(qEW.1 e1).2;rw[e1]at hR;simp only at hR;have hs8:=h.m8 s (qGj e1);have key:ACall prog 109 [.ptr 1000 0 0,.agg op.row] (qdI d c up 1001 1002 1003 1004 1005 1006 1007) (puQ [903,1003,61] [1005,101,107] R up):=by
  refine acv func109 [(7,[zI 0,zI 1,zI 2,zJ 3 [1000] [],zJ 4 [] [1000],zJ 5 [] [1000],zJ 6 [] [1000],zJ 7 [1000] [1000],zJ 8 [] [1000],zJ 9 [3] [1000],zJ 10 [1001,1002,1003,1005] [],zI 11]),(12,[zI 0,zI 1,zI 2,zI 3,zI 4,zJ 5 [3] [],zJ 6 [1000,1001,1002,1003] [],zI 7]),(14,[zI 0,zI 1,zJ 2 [3] [],zJ 3 [] [3],zJ 4 [] [3],zJ 5 [] [3],zJ 6 [1000] [3],zJ 7 [] [3],zI 8,zI 9]),(15,[zI 0,zI 1,zI 2,zJ 3 [1000] [],zJ 4 [] [1000],zJ 5 [] [1000],zJ 6 [3] [1000],zJ 7 [1000,1004,1005,1006,1007] [1000],zJ 8 [1004] [],zI 9]),(16,[zI 0,zI 1,zJ 2 [3] [],zJ 3 [] [3],zJ 4 [] [3],zJ 5 [1004] [],zJ 6 [1004] [],zJ 7 [] [3,1004],zI 8]),(21,[zI 0,zI 1,zJ 2 [3] [],zJ 3 [] [3],zJ 4 [7] [3],zJ 5 [] [3,7],zJ 6 [] [3,7],zJ 7 [1004] [],zI 8,zI 9,zI 10,zI 11])] ntmps109 rfl rfl rfl ?_ (hL:=by simp[qdI]);refine qja (qbB _ ?_);simp[qdI,qfB,BO.row];refine qja (qbB _ ?_);simp[qdI,qfB,BO.row];refine qja (qbB _ ?_);simp[qdI,qfB,BO.row,show(0:Nat)<d.s0.length by omega];refine qja (qbB _ ?_);simp[qdI,qfB,BO.row];refine qvj (X:=DK×PT) (fun x=>ptS x.1 c up op d.s0.length x.2) (fun x=>qbw x.1=true∧0≤x.2.pa∧x.2.pa≤1000∧R=if x.2.pa≠0∧x.2.pa=(s.map[op.i.toNat]?.getD zPT).pa then (x.1,c,0) else qfN d x.1 c (nmP c.sets op.a) op.i.toNat s (s.map[op.i.toNat]?.getD zPT) x.2) ?_ ?_
  ·by_cases ht0:op.text=[]
   ·rw[if_pos ht0]at hR;simp[qdI,qfB,BO.row,ht0];exact qnb (d,zPT) ⟨hd,by simp[zPT],by simp[zPT],by rw[if_neg (by simp[zPT])];exact hR.symm⟩ (qjg [0,3,4,5,6,7] [(3,3),(7,7),(1000,1000),(1001,1001),(1002,1002),(1003,903),(1004,1004),(1005,1005),(1006,1006),(1007,1007)] (by simp[qah]) (by simp[qaw,qag,ptS,qdI,qfB,BO.row,zPT,PT.row,ht0]))
   ·rw[if_neg ht0]at hR;by_cases hx:c.txg=1000000
    ·rw[if_pos hx]at hR;subst hR;simp[qdI,qfB,BO.row,ht0,hx];exact⟨qdI d c up 1001 1002 1003 1004 1005 1006 1007,by simp[qdI,qfB,hx],d,c,1003,1005,by simp,by simp,rfl,rfl,fun e=>by cases e⟩
    ·rw[if_neg hx]at hR;have cf:=qAd d (qdE hd) c.ddt op.text (by omega) (by simp[maxLen];omega);have hfr:=qpe d c.ddt op.text;unfold qdb at hR;generalize qdL d c.ddt op.text=a at *
     have cb:=qmP a op.text (c.txg+1) (by simp[maxLen];omega);have e2:=qao (c.txg+1) (by omega) (by omega);simp only[DK.row]at cf;simp[qdI,qfB,BO.row,ht0,hx];refine cf.view (by simp[qbW,mtA,qai,qbU,qaR,qal,qae,LT.row]) ?_;by_cases ha0:0<a
     ·simp only[if_pos ha0]at hR;simp[show ¬ a=0 by omega,BO.row,e2];refine cb.call ?_;simp[PT.row];have hpa:=qu3 (a:=a) (b:=c.txg+1) op.text (by omega) (by omega);exact qnb (d,qbI a op.text (c.txg+1)) ⟨hd,by simp only[hpa];omega,by simp only[hpa];omega,by
       simp only[hpa];rw[← hR];simp only[ne_eq,not_true_eq_false,if_false];by_cases q:a=(s.map[op.i.toNat]?.getD zPT).pa
       ·rw[if_pos q,if_pos ⟨by omega,q⟩]
       ·rw[if_neg q,if_neg (fun e=>q e.2)]⟩ (qjg [0,3,4,5,6,7] [(3,3),(7,7),(1000,1000),(1001,1001),(1002,1002),(1003,903),(1004,1004),(1005,1005),(1006,1006),(1007,1007)] (by simp[qah]) (by simp[qaw,qag,ptS,qdI,qfB,BO.row,PT.row]))
     ·have ha00:a=0:=by omega
      simp only[if_neg ha0]at hR;have cm:=qCL c h hc d.s0.length (by omega);have cfr:=qrt c h hc d.s0.length (by omega);have hfm:∀ x∈qaT c d.s0.length,13≤x∧x<d.s0.length:=fun x hx=>qiE hx;have hmf:qo2 c d.s0.length=true→0<(qaT c d.s0.length).length:=fun hm=>by
       simp only[qo2,Bool.and_eq_true,decide_eq_true_eq]at hm;omega
      simp only[CO.row]at cm cfr;clear cf cb;simp[ha00];refine cm.view (by simp[qbW,mtA,kcs,qaR,kpt,kin,qal,qbO]) ?_;cases hma:qo2 c d.s0.length with
      | false =>
       rw[hma]at hR;simp only[if_true,ne_eq]at hR;rw[if_pos (by decide)]at hR;subst hR;simp;exact⟨qdI d c up 1001 1002 1003 1004 1005 1006 1007,by simp[qdI,qfB],d,c,1003,1005,by simp,by simp,rfl,rfl,fun e=>by cases e⟩
      | true =>
       have hfl:=hmf hma;rw[hma]at hR;simp only[Bool.true_eq_false,if_false]at hR;generalize qaT c d.s0.length=F at *
       obtain⟨b,F',rfl⟩:∃ b F',F=b::F':=by
        cases F with
        | nil=>simp at hfl
        | cons b F'=>exact⟨b,F',rfl⟩
       simp only[qHg]at hR;have hbm:=hfm b (by simp);have cw:=qrz d hd b op.text (by omega);have hbo:=qb2 hd b op.text;have cb:=qmP b op.text (c.txg+1) (by simp[maxLen];omega);have hpa:=qu3 (a:=b) (b:=c.txg+1) op.text (by omega) (by omega);simp;refine qaJ [] (by kernel_rfl) cfr (by simp[qbW,mtA,kcs,qaR,kpt,kin,qal,qbO]) (by simp) trivial (by simp) (by simp) ?_;rintro r L' ⟨rfl,rfl⟩;refine⟨by simp,by simp[kin,qac],[(900,52)],⟨by simp,by simp,by simp,by simp,by simp⟩,?_⟩;simp only[qaf];obtain⟨W,hW⟩:∃ W,qat d b op.text=W:=⟨_,rfl⟩;simp only[hW]at hR cw hbo;clear hW;obtain⟨E,o⟩:=W;simp only at hbo;simp[kin,qac,BO.row];refine qad [(1000,.sub 1000 0 0 3),(1001,.whole 1001),(1002,.whole 1002),(1003,.whole 1003)] (by kernel_rfl) cw (by simp) (by simp) (by simp[qb9,qb4];exact⟨⟨_,_,rfl,rfl,by simp,by simp,rfl,rfl,by simp⟩,qaa rfl (qaB _),qaa rfl (qaB _),qaa rfl (qcz _)⟩) (by simp[qb9]) (by simp) ?_;rintro r L' ⟨rfl,rfl⟩;refine⟨[(903,61)],⟨by simp[qb9],by simp,by simp,by simp[qb9],by simp[qb9,qb4]⟩,?_⟩;simp only[qaf];cases o with
       | false =>
        simp only[if_true]at hR;rw[if_pos (by decide)]at hR;subst hR;simp[qb9,qb4];exact⟨qdI E c up 1001 1002 61 1004 1005 1006 1007,by simp[qdI,qfB,kin],E,c,61,1005,by simp,by simp,rfl,rfl,fun e=>by cases e⟩
       | true =>
        simp only[Bool.true_eq_false,if_false,ne_eq,not_true_eq_false]at hR;simp[qb9,qb4,BO.row,e2];refine cb.call ?_;simp[PT.row];exact qnb (E,qbI b op.text (c.txg+1)) ⟨hbo.1,by simp only[hpa];omega,by simp only[hpa];omega,by
         simp only[hpa];rw[← hR];by_cases q:b=(s.map[op.i.toNat]?.getD zPT).pa
         ·rw[if_pos q,if_pos ⟨by omega,q⟩]
         ·rw[if_neg q,if_neg (fun e=>q e.2)]⟩ (qjg [0,3,4,5,6,7] [(3,3),(7,7),(1000,1000),(1001,1001),(1002,1002),(61,903),(1004,1004),(1005,1005),(1006,1006),(1007,1007)] (by simp[qah]) (by simp[qaw,qag,ptS,qdI,qfB,BO.row,PT.row,qb9,qb4,kin]))
  ·rintro⟨D,now⟩ ⟨hDok,hn0,hn1,hRx⟩;simp only at hDok hn0 hn1 hRx ⊢;clear hR;have cs:=qCG c h.m8 (by omega) (qtD hc) op.a;obtain⟨i,hii⟩:∃ i:Nat,op.i.toNat=i:=⟨_,rfl⟩;have hi8:i<8:=by omega
   obtain⟨old,ho⟩:∃ o,s.map[i]?=some o:=⟨_,qEq (by omega)⟩;have ho':=(qEW.1 ho).2;have hopi:op.i=(i:Int):=by omega
   rw[hii,ho]at hRx;simp only[qFi]at hRx;have hpo:=qxv (qtE hc (qGj e1)) (qGj ho);have hca:=qtB hs8 ho;have hmin:min 3 (31-(3+i * 3))=3:=by omega
   simp only[PT.row]at hca;refine qbB _ ?_;simp[ptS,qdI,qfB,BO.row];refine qad [(1000,.sub 1000 0 3 7),(1001,.whole 1004),(1002,.whole 1005),(1003,.whole 1006),(1004,.whole 1007)] (by kernel_rfl) cs (by simp) (by simp) (by simp[qcp];exact⟨⟨_,_,rfl,rfl,by simp,by simp,rfl,rfl,by simp⟩,qaa rfl (qbd _),qaa rfl (qbZ _),qaa rfl (qbL _),qaa rfl (qaU _)⟩) (by simp[qcp]) (by simp) ?_;rintro r L' ⟨rfl,rfl⟩;refine⟨[],⟨by simp[qcp],by simp,by simp,by simp[qcp],by simp[qcp]⟩,?_⟩;simp only[qaf];generalize nmP c.sets op.a=k at *
   by_cases q:now.pa≠0∧now.pa=old.pa
   ·rw[if_pos q]at hRx;subst hRx;simp[qcp,kcs,hk,e0,e1,qaV s hs8,qer s hs8,hopi,hi8,PT.row,hca,hmin,q.1,q.2,show ¬ old.pa=0 from q.2 ▸ q.1];exact⟨by omega,by omega,qdI D c up 1001 1002 903 1004 1005 1006 1007,by simp[qdI,qfB,kcs],D,c,903,1005,by simp,by simp,rfl,rfl,fun _=>⟨rfl,rfl⟩⟩
   ·rw[if_neg q]at hRx;simp only[qfN,qlA]at hRx;have hdd:=qoC hc;have cc:=qrx c hdd [now] (fun p hp=>by simp at hp;subst hp;omega) (by simp) true;have hyok:=qj9 true [now] c.ddt c.dirty hdd;generalize qbG true [now] (c.ddt,c.dirty,true)=Y at *
    obtain⟨yl,yd,yo⟩:=Y;simp only at hRx hyok;have cc2:=fun hyl=>qrx ⟨c.txg,c.sets,yl,c.parts,yd,c.safe,c.logn⟩ hyl [old] (fun p hp=>by simp at hp;subst hp;omega) (by simp) false;simp only at cc2;generalize qbG false [old] (yl,yd,true)=Z at *
    obtain⟨zl,zd,zo⟩:=Z;simp only at hRx;have hB:now.pa=0∨(now.pa≠0∧now.pa≠old.pa):=by
     by_cases q1:now.pa=0
     ·exact .inl q1
     ·exact .inr ⟨q1,fun e=>q ⟨q1,e⟩⟩
    rcases hB with q1 | ⟨q1,q2⟩
    ·skip
     simp[qcp,kcs,hk,e0,e1,qaV s hs8,qer s hs8,hopi,hi8,PT.row,hca,hmin,q1];refine⟨by omega,by omega,?_⟩;refine qaJ [(1000,.sub 1000 0 3 7),(1001,.whole 1004),(1002,.whole 1005),(1003,.whole 1006),(1004,.whole 1007)] (by kernel_rfl) cc (by simp[mtA,kin,PT.row,q1]) (by simp) (by simp[qcp];exact⟨⟨_,_,rfl,rfl,by simp,by simp,rfl,rfl,by simp⟩,⟨rfl,qaa rfl (qbd _)⟩,qaa rfl (qbZ _),qaa rfl (qbL _),qaa rfl (qaU _)⟩) (by simp[qcp]) (by simp) ?_;rintro r L' ⟨l,b,i2,h2,rfl,rfl,hq⟩;simp only[qFO,qFX,or_false]at h2;subst h2;refine⟨by simp,by simp[qcp,kcs,qaR,kpt,kin,qac,DE.row,PT.row,qlC,noL],[(902,101)],⟨by simp[qcp],by simp,by simp,by simp[qcp],by simp[qcp]⟩,?_⟩;simp only[qaf];cases yo with
     | false =>
      rw[if_pos (.inl rfl)]at hRx;subst hRx;simp[qcp];exact⟨qdI D ⟨c.txg,c.sets,l,c.parts,b,c.safe,c.logn⟩ up 1001 1002 903 1004 101 1006 1007,by simp[qdI,qfB,kcs],D,_,903,101,by simp,by simp,rfl,rfl,fun e=>by cases e⟩
     | true =>
      obtain⟨rfl,rfl⟩:=hq rfl;have cc2:=cc2 (hyok rfl);simp[qcp];refine qaJ [(1000,.sub 1000 0 3 7),(1001,.whole 1004),(1002,.whole 101),(1003,.whole 1006),(1004,.whole 1007)] (by kernel_rfl) cc2 (by simp[mtA,kin,PT.row]) (by simp) (by simp[qcp];exact⟨⟨_,_,rfl,rfl,by simp,by simp,rfl,rfl,by simp⟩,qaa rfl (qbd _),qaa rfl (qbZ _),qaa rfl (qbL _),qaa rfl (qaU _)⟩) (by simp[qcp]) (by simp) ?_;rintro r L' ⟨l,b,i2,h2,rfl,rfl,hq⟩;simp only[qFO,qFX,or_false]at h2;subst h2;refine⟨by simp,by simp[qcp,kcs,qaR,kpt,kin,qac,DE.row,PT.row,qlC,noL],[(902,107)],⟨by simp[qcp],by simp,by simp,by simp[qcp],by simp[qcp]⟩,?_⟩;simp only[qaf];cases zo with
      | false =>
       rw[if_pos (.inr rfl)]at hRx;subst hRx;simp[qcp];exact⟨qdI D ⟨c.txg,c.sets,l,c.parts,b,c.safe,c.logn⟩ up 1001 1002 903 1004 107 1006 1007,by simp[qdI,qfB,kcs],D,_,903,107,by simp,by simp,rfl,rfl,fun e=>by cases e⟩
      | true =>
       obtain⟨rfl,rfl⟩:=hq rfl;rw[if_neg (by simp)]at hRx;subst hRx;simp[qcp,kcs,hk,e0,e1,qaV s hs8,qer s hs8,hopi,hi8,PT.row,hca,hmin,BO.row];have hrow:=qkN s hs8 hi8 now;exact⟨by omega,by omega,qdI D ⟨c.txg,c.sets.set k ⟨s.name,s.kind,s.frm,s.map.set i now,s.home,true⟩,l,c.parts,b,c.safe,c.logn⟩ up 1001 1002 903 1004 107 1006 1007,by simp[qdI,qfB,kcs,qGv];rw[← hrow];simp[q1],D,_,903,107,by simp,by simp,rfl,rfl,fun _=>⟨rfl,rfl⟩⟩
    ·skip
     simp[qcp,kcs,hk,e0,e1,qaV s hs8,qer s hs8,hopi,hi8,PT.row,hca,hmin,q1,q2];refine⟨by omega,by omega,?_⟩;refine qaJ [(1000,.sub 1000 0 3 7),(1001,.whole 1004),(1002,.whole 1005),(1003,.whole 1006),(1004,.whole 1007)] (by kernel_rfl) cc (by simp[mtA,kin,PT.row]) (by simp) (by simp[qcp];exact⟨⟨_,_,rfl,rfl,by simp,by simp,rfl,rfl,by simp⟩,⟨rfl,qaa rfl (qbd _)⟩,qaa rfl (qbZ _),qaa rfl (qbL _),qaa rfl (qaU _)⟩) (by simp[qcp]) (by simp) ?_;rintro r L' ⟨l,b,i2,h2,rfl,rfl,hq⟩;simp only[qFO,qFX,or_false]at h2;subst h2;refine⟨by simp,by simp[qcp,kcs,qaR,kpt,kin,qac,DE.row,PT.row,qlC,noL],[(902,101)],⟨by simp[qcp],by simp,by simp,by simp[qcp],by simp[qcp]⟩,?_⟩;simp only[qaf];cases yo with
     | false =>
      rw[if_pos (.inl rfl)]at hRx;subst hRx;simp[qcp];exact⟨qdI D ⟨c.txg,c.sets,l,c.parts,b,c.safe,c.logn⟩ up 1001 1002 903 1004 101 1006 1007,by simp[qdI,qfB,kcs],D,_,903,101,by simp,by simp,rfl,rfl,fun e=>by cases e⟩
     | true =>
      obtain⟨rfl,rfl⟩:=hq rfl;have cc2:=cc2 (hyok rfl);simp[qcp];refine qaJ [(1000,.sub 1000 0 3 7),(1001,.whole 1004),(1002,.whole 101),(1003,.whole 1006),(1004,.whole 1007)] (by kernel_rfl) cc2 (by simp[mtA,kin,PT.row]) (by simp) (by simp[qcp];exact⟨⟨_,_,rfl,rfl,by simp,by simp,rfl,rfl,by simp⟩,qaa rfl (qbd _),qaa rfl (qbZ _),qaa rfl (qbL _),qaa rfl (qaU _)⟩) (by simp[qcp]) (by simp) ?_;rintro r L' ⟨l,b,i2,h2,rfl,rfl,hq⟩;simp only[qFO,qFX,or_false]at h2;subst h2;refine⟨by simp,by simp[qcp,kcs,qaR,kpt,kin,qac,DE.row,PT.row,qlC,noL],[(902,107)],⟨by simp[qcp],by simp,by simp,by simp[qcp],by simp[qcp]⟩,?_⟩;simp only[qaf];cases zo with
      | false =>
       rw[if_pos (.inr rfl)]at hRx;subst hRx;simp[qcp];exact⟨qdI D ⟨c.txg,c.sets,l,c.parts,b,c.safe,c.logn⟩ up 1001 1002 903 1004 107 1006 1007,by simp[qdI,qfB,kcs],D,_,903,107,by simp,by simp,rfl,rfl,fun e=>by cases e⟩
      | true =>
       obtain⟨rfl,rfl⟩:=hq rfl;rw[if_neg (by simp)]at hRx;subst hRx;simp[qcp,kcs,hk,e0,e1,qaV s hs8,qer s hs8,hopi,hi8,PT.row,hca,hmin,BO.row];have hrow:=qkN s hs8 hi8 now;exact⟨by omega,by omega,qdI D ⟨c.txg,c.sets.set k ⟨s.name,s.kind,s.frm,s.map.set i now,s.home,true⟩,l,c.parts,b,c.safe,c.logn⟩ up 1001 1002 903 1004 107 1006 1007,by simp[qdI,qfB,kcs,qGv];rw[← hrow],D,_,903,107,by simp,by simp,rfl,rfl,fun _=>⟨rfl,rfl⟩⟩
 refine key.can ?_;rintro r L' ⟨d',c',i3,i5,h3,h5,rfl,rfl,hq⟩;refine⟨[(1000,1000),(1001,1001),(1002,1002),(i3,903),(1004,1004),(i5,905),(1006,1006),(1007,1007)],?_,?_,?_,?_,d',c',903,905,by simp,by simp,by simp,?_,hq⟩
 all_goals
  simp only[qFO,qFX,or_false]at h3 h5;rcases h3 with rfl | rfl | rfl <;> rcases h5 with rfl | rfl | rfl
 all_goals simp[qdI,qfB,qag]
theorem qvo {d:DK} {c:CO} (h:CoT c) (hm:CoM c) (k i:Nat) (text:List UInt8):CoT (qcL d c k i text).2.1:=by
 unfold qcL;split
 ·exact h
 rename_i s hs;have hs8:=h.m8 s (qGj hs);have hsn:=h.nm s (qGj hs);have hG:∀ (x:DK) (old now:PT),CoT (qfN d x c k i s old now).2.1:=fun x old now=>by
  unfold qfN;simp only;split
  ·exact h
  ·have h1:=qd4 true (qhs now) (c.ddt,c.dirty,true);have h2:=qd4 false (qhs old) ((qbG true (qhs now) (c.ddt,c.dirty,true)).1,(qbG true (qhs now) (c.ddt,c.dirty,true)).2.1,true);have h3:=hm.ddt;have h4:=hm.sets;simp only[qhs,qEI,qFE]at h1 h2;refine⟨by simp;omega,?_,h.parts,h.safe,fun x hx=>?_,fun x hx=>?_⟩
   ·simp only[qhs];omega
   ·rcases qHi hx with hx | rfl
    ·exact h.m8 x hx
    ·simpa using hs8
   ·rcases qHi hx with hx | rfl
    ·exact h.nm x hx
    ·exact hsn
 simp only;split
 ·exact hG _ _ _
 split
 ·exact h
 split
 ·exact h
 split
 ·exact h
 ·exact hG _ _ _
def qjf (l:List (List UInt8)) (left:Int):Int:=if left-l.length<0 then -1 else qmn l (left-l.length)
theorem qh3 (l:List (List UInt8)) {left:Int} (h:0≤left):qjf l left≤left∧-1≤qjf l left∧(0≤qjf l left→(l.length:Int)≤left∧∀ t∈l,(t.length:Int)≤left):=by
 unfold qjf;split
 ·exact⟨by omega,by omega,fun h'=>by omega⟩
 ·obtain⟨h1,h2,h3⟩:=qpY l (left-l.length) (by omega);exact⟨by omega,h2,fun h'=>⟨by omega,fun t ht=>by have:=h3 h' t ht;omega⟩⟩
theorem qt7 (l:List (List UInt8)) (left:Int) (hl:l.length≤maxLen) (hm:∀ t∈l,t.length≤maxLen) (h0:0≤left∧left≤1048576):CV prog 70 [.lst 1 (l.map qae),.int .i64 left] (.int .i64 (qjf l left)):=by
 obtain⟨R,hR⟩:∃ R,qjf l left=R:=⟨_,rfl⟩;rw[hR];unfold qjf at hR;have hml:maxLen=9223372036854775807:=rfl;have e0:=qao (left-(l.length:Int)) (by omega) (by omega);refine cvx func70 [] ntmps70 rfl rfl rfl ?_ (hca:=by simp[qae]);by_cases hn:left-(l.length:Int)<0
 ·rw[if_pos hn]at hR;subst hR;simp[e0,hn,show left<(l.length:Int) by omega]
 ·rw[if_neg hn]at hR;simp[e0,hn,show ¬ left<(l.length:Int) by omega];refine qaS (X:=Nat×Int) [0,1,5] [] (fun x=>[(5,.int .i64 x.1),(1,.int .i64 x.2)]) (fun _=>[]) (fun x=>l.length-x.1) (fun x=>x.1≤l.length∧0≤x.2∧x.2≤1048576∧qmn (l.drop x.1) x.2=R) (0,left-l.length) (by simp[hR];omega) ?_;rintro⟨i,k⟩ ⟨hi,hk0,hk,hd⟩;simp only at hi hk0 hk hd;cases hr:l.drop i with
  | nil =>
   have:=qaY hr;rw[hr]at hd;have hie:i=l.length:=by omega
   simp[qmn]at hd;simp[hie,hd]
  | cons t r =>
   obtain⟨h1,f0,f1,h3⟩:=qaZ hr;rw[hr,qmn]at hd;have:=hm t (qGj f1);have e2:=qao ((i:Int)+1) (by omega) (by omega);have e3:=qao (k-(t.length:Int)) (by omega) (by omega);have h1':(i:Int)<l.length:=by omega
   by_cases hq:k-(t.length:Int)<0
   ·rw[if_pos hq]at hd;simp[h1',h1,f0,f1,e3,qae,hq,show k<(t.length:Int) by omega,hd]
   ·rw[if_neg hq]at hd;simp[h1',h1,f0,f1,e2,e3,qae,hq,show ¬ k<(t.length:Int) by omega];exact nx (i+1,k-t.length) [] ⟨by simp only;omega,by simp only;omega,by simp only;omega,by simp only[h3];exact hd⟩ (by simp only;omega) (h4:=by simp[e2,e3])
theorem qst (x:LT) (k:Int) (hx:x.lx.length≤maxLen) (h0:0≤k∧k≤1048576):CV prog 71 [.agg x.row,.int .i64 k] (.int .i64 (qmn [x.lx] k)):=by
 have hml:maxLen=9223372036854775807:=rfl;have e3:=qao (k-(x.lx.length:Int)) (by omega) (by omega);refine cvx func71 [] ntmps71 rfl rfl rfl ?_ (hca:=by simp[LT.row]);simp only[qmn];by_cases hq:k-(x.lx.length:Int)<0
 ·rw[if_pos hq];simp[LT.row,e3,hq,show k<(x.lx.length:Int) by omega]
 ·rw[if_neg hq];simp[LT.row,e3,hq,show ¬ k<(x.lx.length:Int) by omega]
theorem qvx (l:List LT) (left:Int) (hl:l.length≤maxLen) (hm:∀ t∈l,t.lx.length≤maxLen) (h0:0≤left∧left≤1048576):CV prog 29 [.lst 3 (l.map LT.row),.int .i64 left] (.int .i64 (qjf (l.map LT.lx) left)):=by
 obtain⟨R,hR⟩:∃ R,qjf (l.map LT.lx) left=R:=⟨_,rfl⟩;rw[hR];unfold qjf at hR;rw[qFs]at hR;have hml:maxLen=9223372036854775807:=rfl;have e0:=qao (left-(l.length:Int)) (by omega) (by omega);refine cvx func29 [] ntmps29 rfl rfl rfl ?_ (hca:=by simp[LT.row]);by_cases hn:left-(l.length:Int)<0
 ·rw[if_pos hn]at hR;subst hR;simp[e0,hn,show left<(l.length:Int) by omega]
 ·rw[if_neg hn]at hR;simp[e0,hn,show ¬ left<(l.length:Int) by omega];refine qaS (X:=Nat×Int) [0,1,5] [] (fun x=>[(5,.int .i64 x.1),(1,.int .i64 x.2)]) (fun _=>[]) (fun x=>l.length-x.1) (fun x=>x.1≤l.length∧0≤x.2∧x.2≤1048576∧qmn ((l.drop x.1).map LT.lx) x.2=R) (0,left-l.length) (by simp[hR];omega) ?_;rintro⟨i,k⟩ ⟨hi,hk0,hk,hd⟩;simp only at hi hk0 hk hd;cases hr:l.drop i with
  | nil =>
   have:=qaY hr;rw[hr]at hd;have hie:i=l.length:=by omega
   simp[qmn]at hd;simp[hie,hd]
  | cons t r =>
   obtain⟨h1,f0,f1,h3⟩:=qaZ hr;rw[hr,qEQ,qmn]at hd;have htm:=hm t (qGj f1);have e2:=qao ((i:Int)+1) (by omega) (by omega);have c1:=qst t k htm ⟨hk0,hk⟩;have h1':(i:Int)<l.length:=by omega
   simp only[LT.row,qmn]at c1;simp[h1',h1,f0,f1,LT.row];refine c1.call ?_;by_cases hq:k-(t.lx.length:Int)<0
   ·rw[if_pos hq]at hd;subst hd;simp[hq]
   ·rw[if_neg hq]at hd;simp[hq,e2];exact nx (i+1,k-t.lx.length) [] ⟨by simp only;omega,by simp only;omega,by simp only;omega,by simp only[← qGq,h3];exact hd⟩ (by simp only;omega) (h4:=by simp[e2])
def qpy (d:DK) (left:Int):Int:=if qjf d.s0 left<0 then -1 else qjf d.s1 (qjf d.s0 left)
def DkG (d:DK):Prop:=d.s0.length≤maxLen∧d.s1.length≤maxLen∧d.late.length≤maxLen∧(∀ t∈d.s0,t.length≤maxLen)∧(∀ t∈d.s1,t.length≤maxLen)∧(∀ t∈d.late,t.lx.length≤maxLen)
theorem qB0 (d:DK) (left:Int) (hg:DkG d) (h0:0≤left∧left≤1048576):CV prog 28 [.agg [.lst 1 (d.s0.map qae),.lst 1 (d.s1.map qae)],.int .i64 left] (.int .i64 (qpy d left)):=by
 obtain⟨R,hR⟩:∃ R,qpy d left=R:=⟨_,rfl⟩;rw[hR];unfold qpy at hR;obtain⟨g1,g2,g3,g4,g5,g6⟩:=hg;obtain⟨l1,l2,l3⟩:=qh3 d.s0 h0.1;have c1:=qt7 d.s0 left g1 g4 h0;refine cvx func28 [] ntmps28 rfl rfl rfl ?_ (hca:=by simp[qae]);simp;refine qaS (X:=Nat×Int) [1,2,5] [(2,2)] (fun x=>[(5,.int .i64 x.1),(1,.int .i64 x.2)]) (fun _=>[]) (fun x=>2-x.1) (fun x=>(x=(0,left))∨(x=(1,qjf d.s0 left)∧0≤qjf d.s0 left)∨(x=(2,R)∧0≤R)) (0,left) (.inl rfl) ?_ (he:=by simp[qag,qae]);rintro x (rfl | ⟨rfl,hz⟩ | ⟨rfl,hz⟩)
 ·simp[qag,qae];refine c1.call ?_;by_cases hq:qjf d.s0 left<0
  ·rw[if_pos hq]at hR;subst hR;simp[hq]
  ·simp[hq];exact nx (1,qjf d.s0 left) [(2,2)] (.inr (.inl ⟨rfl,by omega⟩)) (h4:=by simp[qag,qae])
 ·have c2:=qt7 d.s1 (qjf d.s0 left) g2 g5 ⟨hz,by omega⟩;obtain⟨m1,m2,m3⟩:=qh3 d.s1 hz;rw[if_neg (by omega)]at hR;simp[qag,qae];refine c2.call ?_;rw[hR];by_cases hq:R<0
  ·have:R=-1:=by omega
   subst this;simp
  ·simp[hq];exact nx (2,R) [(2,2)] (.inr (.inr ⟨rfl,by omega⟩)) (h4:=by simp[qag,qae])
 ·simp[qag]
def qt8 (d:DK) (left:Int):Int:=if qpy d left<0 then -1 else qjf (d.late.map LT.lx) (qpy d left)
theorem qp0 (d:DK) {left:Int} (h:0≤left):qpy d left≤left∧-1≤qpy d left∧(0≤qpy d left→(d.s0.length:Int)≤left∧(d.s1.length:Int)≤left∧(∀ t∈d.s0,(t.length:Int)≤left)∧∀ t∈d.s1,(t.length:Int)≤left):=by
 obtain⟨h1,h2,h3⟩:=qh3 d.s0 h;unfold qpy;split
 ·exact⟨by omega,by omega,fun h'=>by omega⟩
 ·obtain⟨m1,m2,m3⟩:=qh3 d.s1 (left:=qjf d.s0 left) (by omega);exact⟨by omega,m2,fun h'=>⟨(h3 (by omega)).1,by have:=(m3 h').1;omega,(h3 (by omega)).2,fun t ht=>by have:=(m3 h').2 t ht;omega⟩⟩
theorem qpZ (d:DK) {left:Int} (h:0≤left):qt8 d left≤left∧-1≤qt8 d left∧(0≤qt8 d left→(d.s0.length:Int)≤left∧(d.s1.length:Int)≤left∧(d.late.length:Int)≤left∧(∀ t∈d.s0,(t.length:Int)≤left)∧(∀ t∈d.s1,(t.length:Int)≤left)∧∀ t∈d.late,(t.lx.length:Int)≤left):=by
 obtain⟨h1,h2,h3⟩:=qp0 d h;unfold qt8;split
 ·exact⟨by omega,by omega,fun h'=>by omega⟩
 ·obtain⟨m1,m2,m3⟩:=qh3 (d.late.map LT.lx) (left:=qpy d left) (by omega);refine⟨by omega,m2,fun h'=>?_⟩;obtain⟨a1,a2,a3,a4⟩:=h3 (by omega);obtain⟨b1,b2⟩:=m3 h';rw[qFs]at b1;exact⟨a1,a2,by omega,a3,a4,fun t ht=>by have:=b2 t.lx (qER.2 ⟨t,ht,rfl⟩);omega⟩
theorem qBY (d:DK) (left:Int) (hg:DkG d) (h0:0≤left∧left≤1048576):CV prog 7 [.agg d.row,.int .i64 left] (.int .i64 (qt8 d left)):=by
 obtain⟨R,hR⟩:∃ R,qt8 d left=R:=⟨_,rfl⟩;have hle:=qpZ d h0.1;rw[hR]at hle ⊢;unfold qt8 at hR;obtain⟨l1,l2,l3⟩:=qp0 d h0.1;have c1:=qB0 d left hg h0;refine cvx func7 [] ntmps7 rfl rfl rfl ?_ (hca:=by simp[DK.row,qae,LT.row]);simp[DK.row];refine c1.call ?_;by_cases hq:qpy d left<0
 ·rw[if_pos hq]at hR;subst hR;simp[hq]
 ·rw[if_neg hq]at hR;have c2:=qvx d.late (qpy d left) hg.2.2.1 hg.2.2.2.2.2 ⟨by omega,by omega⟩;rw[hR]at c2;simp[hq,DK.row];refine c2.call ?_;by_cases hz:R<0
  ·have:R=-1:=by omega
   subst this;simp
  ·simp[hz]
theorem qlX {α:Type} {l cs:List α} {i:Nat} {b:α} (h:l[i]?=some b) (hi:i<cs.length) (hm:∀ j,j<i→cs[j]?=l[j]?):∀ j,j<i+1→(cs.set i b)[j]?=l[j]?:=fun j hj=>by
 by_cases hji:j=i
 ·subst hji;rw[qF8 hi,h]
 ·rw[qFe (qD8 hji)];exact hm j (by omega)
theorem qoo {α:Type} {l cs:List α} (h:cs.length=l.length) (hm:∀ j,j<l.length→cs[j]?=l[j]?):cs=l:=by
 refine qGO fun q=>?_;by_cases hq:q<l.length
 ·exact hm q hq
 ·rw[qFV (by omega),qFV (by omega)]
theorem qt5 (l:List (List UInt8)) (hl:l.length≤2000000):ACall prog 83 [.lst 1 (l.map qae)] [] (fun r L'=>r=.sl 900 0 l.length∧L'=[(900,qai l)]):=by
 refine acx func83 [] ntmps83 rfl rfl rfl ?_;simp;refine⟨by omega,?_⟩;refine qaS (X:=Nat×List (List UInt8)) [0,3,4] [(7,900)] (fun x=>[(4,.int .i64 x.1)]) (fun x=>[(900,qai x.2)]) (fun x=>l.length-x.1)
  (fun x=>x.1≤l.length∧x.2.length=l.length∧∀ j,j<x.1→x.2[j]?=l[j]?) (0,List.replicate l.length []) ⟨by omega,by simp,by omega⟩ ?_ (he:=by simp[qag,qai,qae])
 rintro⟨i,cs⟩ ⟨hi,hc,hm⟩;simp only at hi hc hm;by_cases h2:i<l.length
 ·obtain⟨b,f1⟩:∃ b,l[i]?=some b:=⟨_,qEq (by omega)⟩;have h2':(i:Int)<l.length:=by omega
  have hil:i<cs.length:=by omega
  have f0:l[i]=b:=(qEW.1 f1).2;have e1:=qao ((i:Int)+1) (by omega) (by omega);simp[h2',h2,hil,f0,f1,qae,qai,hc];exact nx (i+1,cs.set i b) [(900,900)] ⟨by simp only;omega,by simp[hc],qlX f1 hil hm⟩ (by simp only;omega) (h4:=by simp[qag,e1,qai,qGv,qae])
 ·have hie:i=l.length:=by omega
  subst hie;have:=qoo hc hm;subst this;simp
theorem qsp (x:LT):CV prog 84 [.agg x.row] (.agg x.row):=by
 refine cvx func84 [] ntmps84 rfl rfl rfl ?_ (hca:=by simp[LT.row]) (hcv:=by simp[LT.row]);simp[LT.row]
theorem qvt (l:List LT) (hl:l.length≤2000000):ACall prog 35 [.lst 3 (l.map LT.row)] [] (fun r L'=>r=.sl 900 0 l.length∧L'=[(900,qbU l)]):=by
 refine acx func35 [] ntmps35 rfl rfl rfl ?_;simp;refine⟨by omega,?_⟩;refine qaS (X:=Nat×List LT) [0,3,4] [(7,900)] (fun x=>[(4,.int .i64 x.1)]) (fun x=>[(900,qbU x.2)]) (fun x=>l.length-x.1)
  (fun x=>x.1≤l.length∧x.2.length=l.length∧∀ j,j<x.1→x.2[j]?=l[j]?) (0,List.replicate l.length ⟨0,0,[]⟩) ⟨by omega,by simp,by omega⟩ ?_ (he:=by simp[qag,qbU,LT.row])
 rintro⟨i,cs⟩ ⟨hi,hc,hm⟩;simp only at hi hc hm;by_cases h2:i<l.length
 ·obtain⟨b,f1⟩:∃ b,l[i]?=some b:=⟨_,qEq (by omega)⟩;have h2':(i:Int)<l.length:=by omega
  have hil:i<cs.length:=by omega
  have f0:l[i]=b:=(qEW.1 f1).2;have e1:=qao ((i:Int)+1) (by omega) (by omega);have c1:=qsp b;simp only[LT.row]at c1;simp[h2',h2,hil,f0,f1,LT.row,qbU,hc];refine c1.call ?_;simp[h2',h2,hil,f0,f1,LT.row,qbU,hc];exact nx (i+1,cs.set i b) [(900,900)] ⟨by simp only;omega,by simp[hc],qlX f1 hil hm⟩ (by simp only;omega) (h4:=by simp[qag,e1,qbU,qGv,LT.row])
 ·have hie:i=l.length:=by omega
  subst hie;have:=qoo hc hm;subst this;simp
theorem qBX (d:DK) (h:DkT d):ACall prog 34 [.agg [.lst 1 (d.s0.map qae),.lst 1 (d.s1.map qae)]] [] (fun r L'=>r=.agg [.sl 901 0 d.s0.length,.sl 902 0 d.s1.length]∧L'=[(901,qai d.s0),(902,qai d.s1)]):=by
 have l0:=h.l0;have l1:=h.l1;have c1:=qt5 d.s0 (by omega);have c2:=qt5 d.s1 (by omega);refine acx func34 [] ntmps34 rfl rfl rfl ?_;simp;refine qbj (X:=Nat) [1,2,3,4] [(1,1),(2,2),(3,3)] (fun i=>[(4,.int .i64 i)]) (fun i=>(1,⟨2,[[.lst 1 (d.s0.map qae),.lst 1 (d.s1.map qae)]]⟩)::(2,⟨2,[[.nils,.nils]]⟩)::(3,⟨2,[[if i=0 then .nils else .sl 901 0 d.s0.length,if i=2 then .sl 902 0 d.s1.length else .nils]]⟩)::(if i=0 then [] else if i=1 then [(901,qai d.s0)] else [(901,qai d.s0),(902,qai d.s1)])) (fun i=>2-i) (fun i=>i=0∨i=1∨i=2) 0 (.inl rfl) ?_ (he:=by simp[qag])
 rintro i (rfl | rfl | rfl)
 ·simp[qag];refine qad [] (by kernel_rfl) c1 (by simp[qae]) (by simp) trivial (by simp) (by simp) ?_;rintro r L' ⟨rfl,rfl⟩;refine⟨[(900,901)],⟨by simp,by simp,by simp,by simp,by simp⟩,?_⟩;simp only[qaf];simp;exact nx 1 [(1,1),(2,2),(3,3),(901,901)] (.inr (.inl rfl)) (h4:=by simp[qag])
 ·simp[qag];refine qad [] (by kernel_rfl) c2 (by simp[qae]) (by simp) trivial (by simp) (by simp) ?_;rintro r L' ⟨rfl,rfl⟩;refine⟨[(900,902)],⟨by simp,by simp,by simp,by simp,by simp⟩,?_⟩;simp only[qaf];simp;exact nx 2 [(1,1),(2,2),(3,3),(901,901),(902,902)] (.inr (.inr rfl)) (h4:=by simp[qag])
 ·simp[qag]
theorem qyD (d:DK) (h:DkT d):ACall prog 9 [.agg d.row] [] (fun r L'=>r=.agg (qb4 d 901 902 903)∧L'=[(901,qai d.s0),(902,qai d.s1),(903,qbU d.late)]):=by
 have c1:=qBX d h;have c2:=qvt d.late (by have:=h.l2;omega);refine acx func9 [] ntmps9 rfl rfl rfl ?_;simp[DK.row];refine qad [] (by kernel_rfl) c1 (by simp[qae]) (by simp) trivial (by simp) (by simp) ?_;rintro r L' ⟨rfl,rfl⟩;refine⟨[(901,901),(902,902)],⟨by simp,by simp,by simp,by simp,by simp⟩,?_⟩;simp only[qaf];simp;refine qad [] (by kernel_rfl) c2 (by simp[LT.row]) (by simp) trivial (by simp) (by simp) ?_;rintro r L' ⟨rfl,rfl⟩;refine⟨[(900,903)],⟨by simp,by simp,by simp,by simp,by simp⟩,?_⟩;simp only[qaf];simp[qb4]
theorem quM (l:List (List UInt8)) (hl:l.length≤2000000):CV prog 96 [.lst 1 (l.map qae),.lst 1 (l.map qae)] (.bool true):=by
 refine cvx func96 [] ntmps96 rfl rfl rfl ?_ (hca:=by simp[qae]);simp;refine qaS (X:=Nat) [0,1,5] [] (fun x=>[(5,.int .i64 x)]) (fun x=>[]) (fun x=>l.length-x) (fun x=>x≤l.length) 0 (by simp) ?_;rintro i hi;by_cases h2:i<l.length
 ·obtain⟨b,f1⟩:∃ b,l[i]?=some b:=⟨_,qEq (by omega)⟩;have h2':(i:Int)<l.length:=by omega
  have f0:l[i]=b:=(qEW.1 f1).2;have e1:=qao ((i:Int)+1) (by omega) (by omega);simp[h2',h2,f0,f1,qae];exact nx (i+1) [] (by omega) (h4:=by simp[e1])
 ·have:i=l.length:=by omega
  subst this;simp
theorem qtt (x:LT):CV prog 97 [.agg x.row,.agg x.row] (.bool true):=by
 refine cvx func97 [] ntmps97 rfl rfl rfl ?_ (hca:=by simp[LT.row]);simp[LT.row]
theorem qxj (l:List LT) (hl:l.length≤2000000):CV prog 40 [.lst 3 (l.map LT.row),.lst 3 (l.map LT.row)] (.bool true):=by
 refine cvx func40 [] ntmps40 rfl rfl rfl ?_ (hca:=by simp[LT.row]);simp;refine qaS (X:=Nat) [0,1,5] [] (fun x=>[(5,.int .i64 x)]) (fun x=>[]) (fun x=>l.length-x) (fun x=>x≤l.length) 0 (by simp) ?_;rintro i hi;by_cases h2:i<l.length
 ·obtain⟨b,f1⟩:∃ b,l[i]?=some b:=⟨_,qEq (by omega)⟩;have h2':(i:Int)<l.length:=by omega
  have f0:l[i]=b:=(qEW.1 f1).2;have e1:=qao ((i:Int)+1) (by omega) (by omega);have c1:=qtt b;simp only[LT.row]at c1;simp[h2',h2,f0,f1,LT.row];refine c1.call ?_;simp;exact nx (i+1) [] (by omega) (h4:=by simp[e1])
 ·have:i=l.length:=by omega
  subst this;simp
theorem qC2 (d:DK) (h:DkT d):CV prog 39 [.agg [.lst 1 (d.s0.map qae),.lst 1 (d.s1.map qae)],.agg [.lst 1 (d.s0.map qae),.lst 1 (d.s1.map qae)]] (.bool true):=by
 have l0:=h.l0;have l1:=h.l1;have c1:=quM d.s0 (by omega);have c2:=quM d.s1 (by omega);refine cvx func39 [(4,[zI 0,zI 1,zJ 2 [2] [],zJ 3 [] [2],zJ 4 [] [2],zJ 5 [3] [2],zI 6,zI 7])] ntmps39 rfl rfl rfl ?_ (hca:=by simp[qae]);simp;refine qaS (X:=Nat) [2,3,5] [(2,2),(3,3)] (fun x=>[(5,.int .i64 x)]) (fun x=>[]) (fun x=>2-x) (fun x=>x=0∨x=1∨x=2) 0 (.inl rfl) ?_ (he:=by simp[qag,qae]);rintro i (rfl | rfl | rfl)
 ·simp[qag,qae];refine c1.call ?_;simp;exact nx 1 [(2,2),(3,3)] (.inr (.inl rfl)) (h4:=by simp[qag,qae])
 ·simp[qag,qae];refine c2.call ?_;simp;exact nx 2 [(2,2),(3,3)] (.inr (.inr rfl)) (h4:=by simp[qag,qae])
 ·simp[qag]
theorem qAo (d:DK) (h:DkT d):CV prog 11 [.agg d.row,.agg d.row] (.bool true):=by
 have c1:=qC2 d h;have c2:=qxj d.late (by have:=h.l2;omega);refine cvx func11 [] ntmps11 rfl rfl rfl ?_ (hca:=by simp[DK.row,qae,LT.row]);simp[DK.row];refine c1.call ?_;simp;refine c2.call ?_;simp
def mkG {α:Type} (f:Nat→α) (w k n:Nat):List α:=(List.range n).map fun i=>f (k+w * i)
theorem qgE {α:Type} (f:Nat→α) (w k n:Nat):(mkG f w k n).length=n:=by simp[mkG]
theorem qq6 {α:Type} (f:Nat→α) {w k n i:Nat} (h:i<n):(mkG f w k n)[i]?=some (f (k+w * i)):=by simp[mkG,h]
theorem qmK {α:Type} {f:Nat→α} {w k n:Nat} {cs:List α} (hc:cs.length=n) (hm:∀ j,j<n→cs[j]?=some (f (k+w * j))):cs=mkG f w k n:=by
 refine qGO fun q=>?_;by_cases hq:q<n
 ·rw[hm q hq,qq6 f hq]
 ·rw[qFV (by omega),qFV (by rw[qgE];omega)]
theorem qkk {α:Type} {f:Nat→α} {w k i:Nat} {cs:List α} {b:α} (hb:b=f (k+w * i)) (hi:i<cs.length) (hm:∀ j,j<i→cs[j]?=some (f (k+w * j))):∀ j,j<i+1→(cs.set i b)[j]?=some (f (k+w * j)):=fun j hj=>by
 by_cases hji:j=i
 ·subst hji;rw[qF8 hi,hb]
 ·rw[qFe (qD8 hji)];exact hm j (by omega)
def qdq (k:Nat):List UInt8:=mtB k
def qo1 (k:Nat):LT:=⟨k,((k+1:Nat):Int),mtB (k+2)⟩
def qzM (k:Nat):Int:=k
theorem qn9 (l:List (List UInt8)) (n k:Nat) (hn:l.length=n) (hl:n≤2000000) (hk:k≤500000000) :
  ACall prog 113 [.sl 1000 0 n,.int .i64 k] [(1000,qai l)] (fun r L'=>r=.int .i64 ((k+1 * n:Nat):Int)∧L'=[(1000,qai (mkG qdq 1 k n))]):=by
 refine acx func113 [] ntmps113 rfl rfl rfl ?_;simp;refine qaS (X:=Nat×List (List UInt8)) [0,1,5] [(1000,1000)] (fun x=>[(5,.int .i64 x.1),(1,.int .i64 ((k+1 * x.1:Nat):Int))]) (fun x=>[(1000,qai x.2)]) (fun x=>n-x.1)
  (fun x=>x.1≤n∧x.2.length=n∧∀ j,j<x.1→x.2[j]?=some (qdq (k+1 * j))) (0,l) ⟨by omega,hn,by omega⟩ ?_ (he:=by simp[qag])
 rintro⟨i,cs⟩ ⟨hi,hc,hm⟩;simp only at hi hc hm;by_cases h2:i<n
 ·obtain⟨b,f1⟩:∃ b,cs[i]?=some b:=⟨_,qEq (by omega)⟩;have h2':(i:Int)<n:=by omega
  have hil:i<cs.length:=by omega
  have f0:cs[i]=b:=(qEW.1 f1).2;have e1:=qao ((i:Int)+1) (by omega) (by omega);have e2:=qao ((k:Int)+(i:Int)+1) (by omega) (by omega);simp[h2',h2,hil,f0,f1,hc,qai,qae,e1,e2];refine(qf1 _ (k+1 * i) (by omega) (by omega)).call ?_;simp[h2',h2,hil,f0,f1,hc,qai,qae,e1,e2];refine nx (i+1,cs.set i (qdq (k+1 * i))) [(1000,1000)] ⟨by simp only;omega,by simp[hc],fun j hj=>by simpa using qkk (f:=qdq) (w:=1) (k:=k) rfl hil hm j hj⟩ (by simp only;omega) (h4:=?_);simp[qag,e1,e2,qai,qGv,qae,qdq]
  first | done | omega | (constructor <;> first | omega | (congr 1 <;> omega)) 
 ·have hie:i=n:=by omega
  subst hie;have:=qmK hc hm;subst this;simp
theorem qwD (l:List (LT)) (n k:Nat) (hn:l.length=n) (hl:n≤2000000) (hk:k≤500000000) :
  ACall prog 49 [.sl 1000 0 n,.int .i64 k] [(1000,qbU l)] (fun r L'=>r=.int .i64 ((k+3 * n:Nat):Int)∧L'=[(1000,qbU (mkG qo1 3 k n))]):=by
 refine acx func49 [] ntmps49 rfl rfl rfl ?_;simp;refine qaS (X:=Nat×List (LT)) [0,1,5] [(1000,1000)] (fun x=>[(5,.int .i64 x.1),(1,.int .i64 ((k+3 * x.1:Nat):Int))]) (fun x=>[(1000,qbU x.2)]) (fun x=>n-x.1)
  (fun x=>x.1≤n∧x.2.length=n∧∀ j,j<x.1→x.2[j]?=some (qo1 (k+3 * j))) (0,l) ⟨by omega,hn,by omega⟩ ?_ (he:=by simp[qag])
 rintro⟨i,cs⟩ ⟨hi,hc,hm⟩;simp only at hi hc hm;by_cases h2:i<n
 ·obtain⟨b,f1⟩:∃ b,cs[i]?=some b:=⟨_,qEq (by omega)⟩;have h2':(i:Int)<n:=by omega
  have hil:i<cs.length:=by omega
  have f0:cs[i]=b:=(qEW.1 f1).2;have e1:=qao ((i:Int)+1) (by omega) (by omega);have e2:=qao ((k:Int)+3 * (i:Int)+1) (by omega) (by omega);have e3:=qao ((k:Int)+3 * (i:Int)+1+1) (by omega) (by omega);have e4:=qao ((k:Int)+3 * (i:Int)+1+1+1) (by omega) (by omega);simp[h2',h2,hil,f0,f1,hc,qbU,LT.row,e1,e2,e3,e4];refine(qf1 _ (k+3 * i+2) (by omega) (by omega)).call ?_;simp[h2',h2,hil,f0,f1,hc,qbU,LT.row,e1,e2,e3,e4];refine nx (i+1,cs.set i (qo1 (k+3 * i))) [(1000,1000)] ⟨by simp only;omega,by simp[hc],qkk rfl hil hm⟩ (by simp only;omega) (h4:=?_);simp[qag,e1,e2,e3,e4,qbU,qGv,LT.row,qo1]
  first | done | omega | (constructor <;> first | omega | (congr 1 <;> omega)) 
 ·have hie:i=n:=by omega
  subst hie;have:=qmK hc hm;subst this;simp
theorem qwE (l:List (Int)) (n k:Nat) (hn:l.length=n) (hl:n≤2000000) (hk:k≤500000000) :
  ACall prog 17 [.sl 1000 0 n,.int .i64 k] [(1000,kin l)] (fun r L'=>r=.int .i64 ((k+1 * n:Nat):Int)∧L'=[(1000,kin (mkG qzM 1 k n))]):=by
 refine acx func17 [] ntmps17 rfl rfl rfl ?_;simp;refine qaS (X:=Nat×List (Int)) [0,1,5] [(1000,1000)] (fun x=>[(5,.int .i64 x.1),(1,.int .i64 ((k+1 * x.1:Nat):Int))]) (fun x=>[(1000,kin x.2)]) (fun x=>n-x.1)
  (fun x=>x.1≤n∧x.2.length=n∧∀ j,j<x.1→x.2[j]?=some (qzM (k+1 * j))) (0,l) ⟨by omega,hn,by omega⟩ ?_ (he:=by simp[qag])
 rintro⟨i,cs⟩ ⟨hi,hc,hm⟩;simp only at hi hc hm;by_cases h2:i<n
 ·obtain⟨b,f1⟩:∃ b,cs[i]?=some b:=⟨_,qEq (by omega)⟩;have h2':(i:Int)<n:=by omega
  have hil:i<cs.length:=by omega
  have f0:cs[i]=b:=(qEW.1 f1).2;have e1:=qao ((i:Int)+1) (by omega) (by omega);have e2:=qao ((k:Int)+(i:Int)+1) (by omega) (by omega);simp[h2',h2,hil,f0,f1,hc,kin,qac,e1,e2];refine nx (i+1,cs.set i (qzM (k+1 * i))) [(1000,1000)] ⟨by simp only;omega,by simp[hc],fun j hj=>by simpa using qkk (f:=qzM) (w:=1) (k:=k) rfl hil hm j hj⟩ (by simp only;omega) (h4:=?_);simp[qag,e1,e2,kin,qGv,qac,qzM]
  first | done | omega | (constructor <;> first | omega | (congr 1 <;> omega)) 
 ·have hie:i=n:=by omega
  subst hie;have:=qmK hc hm;subst this;simp
theorem qol (n k:Nat) (hl:n≤2000000) (hk:k≤500000000):CV prog 115 [.lst 1 ((mkG qdq 1 k n).map qae),.int .i64 k] (.int .i64 ((k+1 * n:Nat):Int)):=by
 have hn:=qgE qdq 1 k n;refine cvx func115 [] ntmps115 rfl rfl rfl ?_ (hca:=by simp[qae]);simp[hn];refine qaS (X:=Nat) [0,1,5] [] (fun x=>[(5,.int .i64 x),(1,.int .i64 ((k+1 * x:Nat):Int))]) (fun x=>[]) (fun x=>n-x) (fun x=>x≤n) 0 (by omega) ?_;rintro i hi;by_cases h2:i<n
 ·have h2':(i:Int)<n:=by omega
  have f1:=qq6 qdq (w:=1) (k:=k) h2;have hil:i<(mkG qdq 1 k n).length:=by omega
  have f0:(mkG qdq 1 k n)[i]=qdq (k+1 * i):=(qEW.1 f1).2;have e1:=qao ((i:Int)+1) (by omega) (by omega);have e2:=qao ((k:Int)+(i:Int)+1) (by omega) (by omega);simp[h2',h2,hil,hn,f0,f1,qae,qdq,e1,e2];refine(qf1 _ (k+1 * i) (by omega) (by omega)).call ?_;simp[h2',h2,hil,hn,f0,f1,qae,qdq,e1,e2];refine nx (i+1) [] (by omega) (h4:=?_);simp[e1,e2]
  first | done | omega | (congr 1 <;> omega)
 ·have:i=n:=by omega
  subst this;simp[hn]
theorem qw4 (n k:Nat) (hl:n≤2000000) (hk:k≤500000000):CV prog 51 [.lst 3 ((mkG qo1 3 k n).map LT.row),.int .i64 k] (.int .i64 ((k+3 * n:Nat):Int)):=by
 have hn:=qgE qo1 3 k n;refine cvx func51 [] ntmps51 rfl rfl rfl ?_ (hca:=by simp[LT.row]);simp[hn];refine qaS (X:=Nat) [0,1,5] [] (fun x=>[(5,.int .i64 x),(1,.int .i64 ((k+3 * x:Nat):Int))]) (fun x=>[]) (fun x=>n-x) (fun x=>x≤n) 0 (by omega) ?_;rintro i hi;by_cases h2:i<n
 ·have h2':(i:Int)<n:=by omega
  have f1:=qq6 qo1 (w:=3) (k:=k) h2;have hil:i<(mkG qo1 3 k n).length:=by omega
  have f0:(mkG qo1 3 k n)[i]=qo1 (k+3 * i):=(qEW.1 f1).2;have e1:=qao ((i:Int)+1) (by omega) (by omega);have e2:=qao ((k:Int)+3 * (i:Int)+1) (by omega) (by omega);have e3:IntKind.i64.wrap ((k:Int)+3 * (i:Int)+1+1)=(k:Int)+3 * (i:Int)+2:=by rw[qao _ (by omega) (by omega)];omega
  have e4:IntKind.i64.wrap ((k:Int)+3 * (i:Int)+2+1)=(k:Int)+3 * (i:Int)+3:=by rw[qao _ (by omega) (by omega)];omega
  simp[h2',h2,hil,hn,f0,f1,LT.row,qo1,e1,e2,e3,e4];refine(qf1 _ (k+3 * i+2) (by omega) (by omega)).call ?_;simp[h2',h2,hil,hn,f0,f1,LT.row,qo1,e1,e2,e3,e4];refine nx (i+1) [] (by omega) (h4:=?_);simp[e1,e2,e3,e4]
  first | done | omega | (congr 1 <;> omega)
 ·have:i=n:=by omega
  subst this;simp[hn]
def mkD (d:DK) (k:Nat):DK:=⟨mkG qdq 1 k d.s0.length,mkG qdq 1 (k+d.s0.length) d.s1.length,mkG qo1 3 (k+d.s0.length+d.s1.length) d.late.length⟩
def wD (d:DK):Nat:=d.s0.length+d.s1.length+3 * d.late.length
theorem qwF (a b:List (List UInt8)) (n0 n1 k:Nat) (ha:a.length=n0) (hb:b.length=n1) (h0:n0≤2000000) (h1:n1≤2000000) (hk:k≤400000000) :
  ACall prog 48 [.agg [.sl 1000 0 n0,.sl 1001 0 n1],.int .i64 k] [(1000,qai a),(1001,qai b)] (fun r L'=>r=.int .i64 ((k+n0+n1:Nat):Int)∧L'=[(1000,qai (mkG qdq 1 k n0)),(1001,qai (mkG qdq 1 (k+n0) n1))]):=by
 have c1:=qn9 a n0 k ha h0 (by omega);have c2:=qn9 b n1 (k+n0) hb h1 (by omega);simp only[qEB,qHs]at c1 c2;refine acx func48 [] ntmps48 rfl rfl rfl ?_;simp;refine qbj (X:=Nat) [1,2,5] [(2,2),(1000,1000),(1001,1001)] (fun i=>[(5,.int .i64 i),(1,.int .i64 (if i=0 then (k:Int) else if i=1 then (k:Int)+n0 else (k:Int)+n0+n1))]) (fun i=>[(2,⟨2,[[.sl 1000 0 n0,.sl 1001 0 n1]]⟩),(1000,qai (if i=0 then a else mkG qdq 1 k n0)),(1001,qai (if i=2 then mkG qdq 1 (k+n0) n1 else b))]) (fun i=>2-i) (fun i=>i=0∨i=1∨i=2) 0 (.inl rfl) ?_ (he:=by simp[qag])
 rintro i (rfl | rfl | rfl)
 ·simp[qag];refine qad [(1000,.whole 1000)] (by kernel_rfl) c1 (by simp) (by simp) ⟨⟨qai a,by simp,rfl,qaa rfl (qaB _)⟩,trivial⟩ (by simp) (by simp) ?_;rintro r L' ⟨rfl,rfl⟩;refine⟨[],⟨by simp,by simp,by simp,by simp,by simp⟩,?_⟩;simp only[qaf];simp;exact nx 1 [(2,2),(1000,1000),(1001,1001)] (.inr (.inl rfl)) (h4:=by simp[qag])
 ·simp[qag];refine qad [(1000,.whole 1001)] (by kernel_rfl) c2 (by simp) (by simp) ⟨⟨qai b,by simp,rfl,qaa rfl (qaB _)⟩,trivial⟩ (by simp) (by simp) ?_;rintro r L' ⟨rfl,rfl⟩;refine⟨[],⟨by simp,by simp,by simp,by simp,by simp⟩,?_⟩;simp only[qaf];simp;exact nx 2 [(2,2),(1000,1000),(1001,1001)] (.inr (.inr rfl)) (h4:=by simp[qag])
 ·simp[qag]
theorem qq9 (d:DK) (k:Nat) (h:DkT d) (hk:k≤300000000) :
  ACall prog 16 [.agg (qb4 d 1000 1001 1002),.int .i64 k] [(1000,qai d.s0),(1001,qai d.s1),(1002,qbU d.late)] (fun r L'=>r=.int .i64 ((k+wD d:Nat):Int)∧L'=[(1000,qai (mkD d k).s0),(1001,qai (mkD d k).s1),(1002,qbU (mkD d k).late)]):=by
 have l0:=h.l0;have l1:=h.l1;have l2:=h.l2;have c1:=qwF d.s0 d.s1 d.s0.length d.s1.length k rfl rfl (by omega) (by omega) (by omega);have c2:=qwD d.late d.late.length (k+d.s0.length+d.s1.length) rfl (by omega) (by omega);simp only[qEB,qHs,Int.natCast_mul,qHt]at c1 c2;refine acx func16 [] ntmps16 rfl rfl rfl ?_;simp[qb4];refine qad [(1000,.whole 1000),(1001,.whole 1001)] (by kernel_rfl) c1 (by simp) (by simp) ⟨⟨qai d.s0,by simp,rfl,qaa rfl (qaB _)⟩,⟨qai d.s1,by simp,rfl,qaa rfl (qaB _)⟩,trivial⟩ (by simp) (by simp) ?_;rintro r L' ⟨rfl,rfl⟩;refine⟨[],⟨by simp,by simp,by simp,by simp,by simp⟩,?_⟩;simp only[qaf];simp;refine qad [(1000,.whole 1002)] (by kernel_rfl) c2 (by simp) (by simp) ⟨⟨qbU d.late,by simp,rfl,qaa rfl (qcz _)⟩,trivial⟩ (by simp) (by simp) ?_;rintro r L' ⟨rfl,rfl⟩;refine⟨[],⟨by simp,by simp,by simp,by simp,by simp⟩,?_⟩;simp only[qaf];simp[mkD,wD]
 first | done | omega
theorem qBJ {d:DK} (h:DkT d):wD d≤5242880:=by
 have l0:=h.l0;have l1:=h.l1;have l2:=h.l2;unfold wD;omega
theorem qw6 (n0 n1 k:Nat) (h0:n0≤2000000) (h1:n1≤2000000) (hk:k≤400000000) :
  CV prog 50 [.agg [.lst 1 ((mkG qdq 1 k n0).map qae),.lst 1 ((mkG qdq 1 (k+n0) n1).map qae)],.int .i64 k] (.int .i64 ((k+n0+n1:Nat):Int)):=by
 have c1:=qol n0 k h0 (by omega);have c2:=qol n1 (k+n0) h1 (by omega);simp only[qEB,qHs]at c1 c2;generalize mkG qdq 1 k n0=a at *
 generalize mkG qdq 1 (k+n0) n1=b at *
 refine cvx func50 [] ntmps50 rfl rfl rfl ?_ (hca:=by simp[qae]);simp;refine qaS (X:=Nat) [1,2,5] [(2,2)] (fun i=>[(5,.int .i64 i),(1,.int .i64 (if i=0 then (k:Int) else if i=1 then (k:Int)+n0 else (k:Int)+n0+n1))]) (fun x=>[]) (fun x=>2-x) (fun x=>x=0∨x=1∨x=2) 0 (.inl rfl) ?_ (he:=by simp[qag,qae])
 have q1:¬ (k:Int)+n0<0:=by omega
 have q2:¬ (k:Int)+n0+n1<0:=by omega
 rintro i (rfl | rfl | rfl)
 ·simp[qag,qae];refine c1.call ?_;simp[q1];exact nx 1 [(2,2)] (.inr (.inl rfl)) (h4:=by simp[qag,qae])
 ·simp[qag,qae];refine c2.call ?_;simp[q2];exact nx 2 [(2,2)] (.inr (.inr rfl)) (h4:=by simp[qag,qae])
 ·simp[qag]
theorem qw5 (d:DK) (k:Nat) (h:DkT d) (hk:k≤300000000):CV prog 18 [.agg (mkD d k).row,.int .i64 k] (.int .i64 ((k+wD d:Nat):Int)):=by
 have l0:=h.l0;have l1:=h.l1;have l2:=h.l2;have c1:=qw6 d.s0.length d.s1.length k (by omega) (by omega) (by omega);have c2:=qw4 d.late.length (k+d.s0.length+d.s1.length) (by omega) (by omega);simp only[qEB,qHs,Int.natCast_mul,qHt]at c1 c2;have q1:¬ (k:Int)+d.s0.length+d.s1.length<0:=by omega
 have q2:¬ (k:Int)+d.s0.length+d.s1.length+3 * d.late.length<0:=by omega
 refine cvx func18 [] ntmps18 rfl rfl rfl ?_ (hca:=by simp[DK.row,qae,LT.row]);simp[DK.row,mkD];refine c1.call ?_;simp[q1];refine c2.call ?_;simp[q2,wD]
 first | done | omega
theorem qsv {n:Nat} {avs:List AV} (h:Shp prog (n+2) 22 avs):∃ l:List (List UInt8),(l.length≤maxLen∧∀ t∈l,t.length≤maxLen)∧avs=[.lst 1 (l.map qae)]:=by
 obtain⟨e2,m2,rfl,k2⟩:=qh9 underlying22 h;obtain⟨l2,rfl,g2⟩:=qj6 qae (fun t:List UInt8=>t.length≤maxLen) e2 fun r hr=>qvA (k2 r hr);have c1:prog.cellsOf 9=1:=by kernel_rfl
 rw[c1];exact⟨l2,⟨by simpa using m2,g2⟩,rfl⟩
theorem qzO {n:Nat} {avs:List AV} (h:Shp prog (n+2) 98 avs):∃ x:LT,x.lx.length≤maxLen∧avs=x.row:=by
 obtain⟨a1,b1,rfl,h1,a2,b2,rfl,h2,a3,b3,rfl,h3,rfl⟩:=qjk underlying98 h;obtain⟨z1,g1,rfl⟩:=qmy h1;obtain⟨z2,g2,rfl⟩:=qmy h2;obtain⟨s3,m3,rfl⟩:=qjl underlying9 h3;exact⟨⟨z1,z2,s3⟩,m3,rfl⟩
theorem qAt {n:Nat} {avs:List AV} (h:Shp prog (n+6) 26 avs):∃ d:DK,DkG d∧avs=d.row:=by
 obtain⟨a1,b1,rfl,h1,a2,b2,rfl,h2,rfl⟩:=qjk underlying26 h;obtain⟨l,hl,rfl,hg⟩:=qu8 (fun l:List (List UInt8)=>[.lst 1 (l.map qae)]) (fun l=>l.length≤maxLen∧∀ t∈l,t.length≤maxLen) _ (fun r hr=>qsv hr) 2 a1 (qqd underlying23 h1);obtain⟨e2,m2,rfl,k2⟩:=qh9 underlying24 h2;obtain⟨l2,rfl,g2⟩:=qj6 LT.row (fun x=>x.lx.length≤maxLen) e2 fun r hr=>qzO (k2 r hr);have c1:prog.cellsOf 98=3:=by kernel_rfl
 rw[c1]
 match l,hl with
 | [s0,s1],_ =>
  have q0:=hg s0 (by simp);have q1:=hg s1 (by simp);exact⟨⟨s0,s1,l2⟩,⟨q0.1,q1.1,by simpa using m2,q0.2,q1.2,g2⟩,rfl⟩
def faQ (x y:Nat) (R:DK) (r:AV) (L':List (Nat×Ob)):Prop :=
 (R=zDK∧r=.agg [.nils,.nils,.nils]∧L'=[]) ∨
 (R.late=[]∧r=.agg [.sl x 0 R.s0.length,.sl y 0 R.s1.length,.nils]∧L'=[(x,qai R.s0),(y,qai R.s1)])
theorem qAe (d:DK) (h:DkT d) (fate:List Int) (hf:fate.length≤1048576):ACall prog 46 [.agg d.row,.lst 1 (fate.map qac)] [] (faQ 901 902 (qcy d fate)):=by
 have key:ACall prog 46 [.agg d.row,.lst 1 (fate.map qac)] [] (faQ 801 802 (qcy d fate)):=by
  obtain⟨R,hR⟩:∃ R,qcy d fate=R:=⟨_,rfl⟩;rw[hR];unfold qcy at hR;have h0:=h.l0;have h1:=h.l1;have h2:=h.l2;have c1:=qf5 d h;have co:=qlL d h;simp only[DK.row]at c1 co;refine acx func46 [(8,[zI 0,zJ 1 [7] [],zJ 2 [] [7],zI 3,zJ 4 [5] [],zJ 5 [] [7,5],zJ 6 [7] [7,5],zJ 7 [801,802] [],zI 8]),(15,[zI 0,zI 1,zJ 2 [7] [],zJ 3 [] [7],zI 4,zJ 5 [] [7],zJ 6 [] [7],zJ 7 [] [7],zJ 8 [] [7],zJ 9 [] [7],zJ 10 [] [7],zI 11,zI 12,zI 13])] ntmps46 rfl rfl rfl ?_;simp[DK.row];refine c1.call ?_;cases hok:qbw d with
  | false =>
   rw[if_neg (by simp[hok])]at hR;simp[← hR];exact⟨[],by simp,.inl ⟨rfl,rfl,rfl⟩⟩
  | true =>
   rw[if_pos hok]at hR;obtain⟨g1,g2,g3,g4,g5,g6,g7⟩:=qbs hok;simp;refine qad [] (by kernel_rfl) co (by simp[qae,LT.row]) (by simp) trivial (by simp) (by simp) ?_;rintro r L' ⟨rfl,rfl⟩;refine⟨[(6,801),(10,802),(14,803)],⟨by simp,by simp,by simp,by simp,by simp⟩,?_⟩;simp only[qaf];simp;refine qaS (X:=Nat×L2) [1,4,5,18,19,20] [(4,4),(5,5),(801,801),(802,802),(803,803)] (fun x=>[(20,.int .i64 x.1)]) (fun x=>[(801,qai x.2.1),(802,qai x.2.2)]) (fun x=>d.late.length-x.1)
    (fun x=>x.1≤d.late.length∧x.1≤fate.length∧x.2.1.length=d.s0.length∧x.2.2.length=d.s0.length∧(∀ t∈x.2.1,t.length≤1048576)∧(∀ t∈x.2.2,t.length≤1048576)∧(⟨(qem (d.late.drop x.1) (fate.drop x.1) x.2).1,(qem (d.late.drop x.1) (fate.drop x.1) x.2).2,[]⟩:DK)=R) (0,(d.s0,d.s1)) ⟨by omega,by omega,rfl,g3,h.t0,h.t1,hR⟩ ?_ (he:=by simp[qag])
   rintro⟨i,a,b⟩ ⟨hi,hj,ha,hb,ta,tb,hd⟩;simp only at hi hj ha hb ta tb hd;by_cases hil:i<d.late.length
   ·obtain⟨w,f1⟩:∃ w,d.late[i]?=some w:=⟨_,qEq hil⟩;have f0:d.late[i]=w:=(qEW.1 f1).2;have hli:(i:Int)<d.late.length:=by omega
    by_cases hjl:i<fate.length
    ·obtain⟨f,g1⟩:∃ f,fate[i]?=some f:=⟨_,qEq hjl⟩;have g0:fate[i]=f:=(qEW.1 g1).2;have hw:=thereB_iff.1 (g7 w (qGj f1));rw[qdO f1,qdO g1,qem]at hd;obtain⟨w1,w2,w3⟩:=hw;have hlj:(i:Int)<fate.length:=by omega
     have e2:=qao ((i:Int)+1) (by omega) (by omega);have hl:(qbi (a,b) w f).1.length=a.length∧(qbi (a,b) w f).2.length=b.length:=qiI (a,b) w f;have hx:=h.t2 w (qGj f1);have tp:=qmX (p:=(a,b)) (w:=w) (f:=f) ta tb hx;have hla:w.la.toNat<a.length:=by omega
     have hlb:w.la.toNat<b.length:=by omega
     by_cases q1:f=1
     ·subst q1;rcases w1 with w1 | w1
      ·simp[qag,LT.row,qac,hil,hjl,f0,f1,g0,g1,hli,hlj,e2,w2.1,w2.2,qai,show ¬ (fate.length:Int)≤i by omega,show ¬ fate.length≤i by omega,w1];refine⟨by omega,nx (i+1,qbi (a,b) w 1) [(4,4),(5,5),(801,801),(802,802),(803,803)] ⟨by simp only;omega,by simp only;omega,by simp only;omega,by simp only;omega,tp.1,tp.2,hd⟩ (by simp only;omega) (h4:=?_)⟩;simp[qag,e2,qbi,qeh,w1,qai,qae,hla]
      ·simp[qag,LT.row,qac,hil,hjl,f0,f1,g0,g1,hli,hlj,e2,w2.1,w2.2,qai,show ¬ (fate.length:Int)≤i by omega,show ¬ fate.length≤i by omega,w1]
       first
        | refine⟨by omega,by omega,nx (i+1,qbi (a,b) w 1) [(4,4),(5,5),(801,801),(802,802),(803,803)] ⟨by simp only;omega,by simp only;omega,by simp only;omega,by simp only;omega,tp.1,tp.2,hd⟩ (by simp only;omega) (h4:=?_)⟩
        | refine⟨by omega,nx (i+1,qbi (a,b) w 1) [(4,4),(5,5),(801,801),(802,802),(803,803)] ⟨by simp only;omega,by simp only;omega,by simp only;omega,by simp only;omega,tp.1,tp.2,hd⟩ (by simp only;omega) (h4:=?_)⟩
       simp[qag,e2,qbi,qeh,w1,qai,qae,hlb]
     ·by_cases q2:f=2
      ·subst q2;have t2:=qrB w.lx.length;have hh:w.lx.length / 2≤w.lx.length:=by omega
       have ew:=qao (((w.lx.length / 2:Nat):Int)) (by omega) (by omega);rcases w1 with w1 | w1
       ·obtain⟨o,ho⟩:∃ o,a[w.la.toNat]=o:=⟨_,rfl⟩;have ho1:a[w.la.toNat]?=some o:=by rw[qEq hla,ho]
        have ho2:o.length≤1048576:=ta o (qGj ho1);obtain⟨k,hk⟩:∃ k,w.lx.length / 2=k:=⟨_,rfl⟩;rw[hk]at t2 hh ew;have gt:List.take (o.length-k) (o.drop k)=o.drop k:=qEF (by simp);by_cases hk2:o.length<k
        ·have gd:o.drop k=[]:=qF9 (by omega);simp[qag,LT.row,qac,hil,hjl,f0,f1,g0,g1,hli,hlj,e2,w2.1,w2.2,qai,show ¬ (fate.length:Int)≤i by omega,show ¬ fate.length≤i by omega,w1,qae,hla,ho,ho1,t2,hh,ew,hk2]
         first
          | refine⟨by omega,by omega,nx (i+1,qbi (a,b) w 2) [(4,4),(5,5),(801,801),(802,802),(803,803)] ⟨by simp only;omega,by simp only;omega,by simp only;omega,by simp only;omega,tp.1,tp.2,hd⟩ (by simp only;omega) (h4:=?_)⟩
          | refine⟨by omega,nx (i+1,qbi (a,b) w 2) [(4,4),(5,5),(801,801),(802,802),(803,803)] ⟨by simp only;omega,by simp only;omega,by simp only;omega,by simp only;omega,tp.1,tp.2,hd⟩ (by simp only;omega) (h4:=?_)⟩
          | refine nx (i+1,qbi (a,b) w 2) [(4,4),(5,5),(801,801),(802,802),(803,803)] ⟨by simp only;omega,by simp only;omega,by simp only;omega,by simp only;omega,tp.1,tp.2,hd⟩ (by simp only;omega) (h4:=?_)
          | refine⟨by omega,by omega,by omega,nx (i+1,qbi (a,b) w 2) [(4,4),(5,5),(801,801),(802,802),(803,803)] ⟨by simp only;omega,by simp only;omega,by simp only;omega,by simp only;omega,tp.1,tp.2,hd⟩ (by simp only;omega) (h4:=?_)⟩
         simp[qag,e2,qbi,qeh,qut,w1,qai,qae,hla,ho,ho1,qjR,hk,gd]
        ·simp[qag,LT.row,qac,hil,hjl,f0,f1,g0,g1,hli,hlj,e2,w2.1,w2.2,qai,show ¬ (fate.length:Int)≤i by omega,show ¬ fate.length≤i by omega,w1,qae,hla,ho,ho1,t2,hh,ew,hk2,gt]
         first
          | refine⟨by omega,by omega,nx (i+1,qbi (a,b) w 2) [(4,4),(5,5),(801,801),(802,802),(803,803)] ⟨by simp only;omega,by simp only;omega,by simp only;omega,by simp only;omega,tp.1,tp.2,hd⟩ (by simp only;omega) (h4:=?_)⟩
          | refine⟨by omega,nx (i+1,qbi (a,b) w 2) [(4,4),(5,5),(801,801),(802,802),(803,803)] ⟨by simp only;omega,by simp only;omega,by simp only;omega,by simp only;omega,tp.1,tp.2,hd⟩ (by simp only;omega) (h4:=?_)⟩
          | refine nx (i+1,qbi (a,b) w 2) [(4,4),(5,5),(801,801),(802,802),(803,803)] ⟨by simp only;omega,by simp only;omega,by simp only;omega,by simp only;omega,tp.1,tp.2,hd⟩ (by simp only;omega) (h4:=?_)
          | refine⟨by omega,by omega,by omega,nx (i+1,qbi (a,b) w 2) [(4,4),(5,5),(801,801),(802,802),(803,803)] ⟨by simp only;omega,by simp only;omega,by simp only;omega,by simp only;omega,tp.1,tp.2,hd⟩ (by simp only;omega) (h4:=?_)⟩
         simp[qag,e2,qbi,qeh,qut,w1,qai,qae,hla,ho,ho1,qjR,hk,gt]
       ·obtain⟨o,ho⟩:∃ o,b[w.la.toNat]=o:=⟨_,rfl⟩;have ho1:b[w.la.toNat]?=some o:=by rw[qEq hlb,ho]
        have ho2:o.length≤1048576:=tb o (qGj ho1);obtain⟨k,hk⟩:∃ k,w.lx.length / 2=k:=⟨_,rfl⟩;rw[hk]at t2 hh ew;have gt:List.take (o.length-k) (o.drop k)=o.drop k:=qEF (by simp);by_cases hk2:o.length<k
        ·have gd:o.drop k=[]:=qF9 (by omega);simp[qag,LT.row,qac,hil,hjl,f0,f1,g0,g1,hli,hlj,e2,w2.1,w2.2,qai,show ¬ (fate.length:Int)≤i by omega,show ¬ fate.length≤i by omega,w1,qae,hlb,ho,ho1,t2,hh,ew,hk2]
         first
          | refine⟨by omega,by omega,nx (i+1,qbi (a,b) w 2) [(4,4),(5,5),(801,801),(802,802),(803,803)] ⟨by simp only;omega,by simp only;omega,by simp only;omega,by simp only;omega,tp.1,tp.2,hd⟩ (by simp only;omega) (h4:=?_)⟩
          | refine⟨by omega,nx (i+1,qbi (a,b) w 2) [(4,4),(5,5),(801,801),(802,802),(803,803)] ⟨by simp only;omega,by simp only;omega,by simp only;omega,by simp only;omega,tp.1,tp.2,hd⟩ (by simp only;omega) (h4:=?_)⟩
          | refine nx (i+1,qbi (a,b) w 2) [(4,4),(5,5),(801,801),(802,802),(803,803)] ⟨by simp only;omega,by simp only;omega,by simp only;omega,by simp only;omega,tp.1,tp.2,hd⟩ (by simp only;omega) (h4:=?_)
          | refine⟨by omega,by omega,by omega,nx (i+1,qbi (a,b) w 2) [(4,4),(5,5),(801,801),(802,802),(803,803)] ⟨by simp only;omega,by simp only;omega,by simp only;omega,by simp only;omega,tp.1,tp.2,hd⟩ (by simp only;omega) (h4:=?_)⟩
         simp[qag,e2,qbi,qeh,qut,w1,qai,qae,hlb,ho,ho1,qjR,hk,gd]
        ·simp[qag,LT.row,qac,hil,hjl,f0,f1,g0,g1,hli,hlj,e2,w2.1,w2.2,qai,show ¬ (fate.length:Int)≤i by omega,show ¬ fate.length≤i by omega,w1,qae,hlb,ho,ho1,t2,hh,ew,hk2,gt]
         first
          | refine⟨by omega,by omega,nx (i+1,qbi (a,b) w 2) [(4,4),(5,5),(801,801),(802,802),(803,803)] ⟨by simp only;omega,by simp only;omega,by simp only;omega,by simp only;omega,tp.1,tp.2,hd⟩ (by simp only;omega) (h4:=?_)⟩
          | refine⟨by omega,nx (i+1,qbi (a,b) w 2) [(4,4),(5,5),(801,801),(802,802),(803,803)] ⟨by simp only;omega,by simp only;omega,by simp only;omega,by simp only;omega,tp.1,tp.2,hd⟩ (by simp only;omega) (h4:=?_)⟩
          | refine nx (i+1,qbi (a,b) w 2) [(4,4),(5,5),(801,801),(802,802),(803,803)] ⟨by simp only;omega,by simp only;omega,by simp only;omega,by simp only;omega,tp.1,tp.2,hd⟩ (by simp only;omega) (h4:=?_)
          | refine⟨by omega,by omega,by omega,nx (i+1,qbi (a,b) w 2) [(4,4),(5,5),(801,801),(802,802),(803,803)] ⟨by simp only;omega,by simp only;omega,by simp only;omega,by simp only;omega,tp.1,tp.2,hd⟩ (by simp only;omega) (h4:=?_)⟩
         simp[qag,e2,qbi,qeh,qut,w1,qai,qae,hlb,ho,ho1,qjR,hk,gt]
      ·rcases w1 with w1 | w1
       ·simp[qag,LT.row,qac,hil,hjl,f0,f1,g0,g1,hli,hlj,e2,w2.1,w2.2,qai,show ¬ (fate.length:Int)≤i by omega,show ¬ fate.length≤i by omega,w1,q1,q2]
        first
         | refine nx (i+1,qbi (a,b) w f) [(4,4),(5,5),(801,801),(802,802),(803,803)] ⟨by simp only;omega,by simp only;omega,by simp only;omega,by simp only;omega,tp.1,tp.2,hd⟩ (by simp only;omega) (h4:=?_)
         | refine⟨by omega,nx (i+1,qbi (a,b) w f) [(4,4),(5,5),(801,801),(802,802),(803,803)] ⟨by simp only;omega,by simp only;omega,by simp only;omega,by simp only;omega,tp.1,tp.2,hd⟩ (by simp only;omega) (h4:=?_)⟩
        simp[qag,e2,qbi,q1,q2]
       ·simp[qag,LT.row,qac,hil,hjl,f0,f1,g0,g1,hli,hlj,e2,w2.1,w2.2,qai,show ¬ (fate.length:Int)≤i by omega,show ¬ fate.length≤i by omega,w1,q1,q2]
        first
         | refine⟨by omega,by omega,nx (i+1,qbi (a,b) w f) [(4,4),(5,5),(801,801),(802,802),(803,803)] ⟨by simp only;omega,by simp only;omega,by simp only;omega,by simp only;omega,tp.1,tp.2,hd⟩ (by simp only;omega) (h4:=?_)⟩
         | refine⟨by omega,nx (i+1,qbi (a,b) w f) [(4,4),(5,5),(801,801),(802,802),(803,803)] ⟨by simp only;omega,by simp only;omega,by simp only;omega,by simp only;omega,tp.1,tp.2,hd⟩ (by simp only;omega) (h4:=?_)⟩
        simp[qag,e2,qbi,q1,q2]
    ·rw[qgc (.inr (qF9 (by omega)))]at hd;have hlj:¬ (i:Int)<fate.length:=by omega
     simp[qag,LT.row,hil,f0,f1,hli,hlj,show(fate.length:Int)≤i by omega];rw[← hd];exact⟨[(801,qai a),(802,qai b)],by simp[qag,qai],.inr ⟨rfl,by simp[ha,hb,g3],rfl⟩⟩
   ·rw[qgc (.inl (qF9 (by omega)))]at hd;have hli:¬ (i:Int)<d.late.length:=by omega
    simp[qag,hli];rw[← hd];exact⟨[(801,qai a),(802,qai b)],by simp[qag,qai],.inr ⟨rfl,by simp[ha,hb,g3],rfl⟩⟩
 refine key.can ?_;rintro r L' (⟨h1,rfl,rfl⟩ | ⟨h1,rfl,rfl⟩)
 ·exact⟨[],by simp,by simp,by simp,by simp,.inl ⟨h1,by simp,by simp⟩⟩
 ·refine⟨[(801,901),(802,902)],by simp,by simp,by simp,by simp,.inr ⟨h1,by simp,by simp[qag,qai]⟩⟩
def dkL (R:DK):List (Nat×Ob):=[(901,qai R.s0),(902,qai R.s1),(903,qbU R.late)]
theorem quq:qws [(901,1),(902,1),(903,3)] (.agg [.nils,.nils,.nils]) (.agg (qb4 zDK 901 902 903)):=qnY (.cons (qhF 901) (.cons (qhF 902) (.cons (qhF 903) .nil)))
theorem qok (d:DK) (h:DkT d) (fate:List Int) (hf:fate.length≤1048576):ACall prog 46 [.agg d.row,.lst 1 (fate.map qac)] [] (fun r L'=>r=.agg (qb4 (qcy d fate) 901 902 903)∧L'=dkL (qcy d fate)):=by
 refine(qAe d h fate hf).canN ?_;rintro r L' (⟨h1,rfl,rfl⟩ | ⟨h1,rfl,rfl⟩)
 ·rw[h1];exact⟨[(901,1),(902,1),(903,3)],[],by simp,by simp,by simp,by simp,_,by simpa using quq,rfl,rfl⟩
 ·refine⟨[(903,3)],[(901,901),(902,902)],by simp,by simp,by simp,by simp[N0],.agg (qb4 (qcy d fate) 901 902 903),?_,rfl,?_⟩
  ·rw[qb4,h1];simp;exact qnY (.cons (qfV _ _) (.cons (qfV _ _) (.cons (qhF 903) .nil)))
  ·simp[dkL,qag,qai,h1,N0,qbU]
def cuQ (R:DK) (r:AV) (L':List (Nat×Ob)):Prop :=
 (R=zDK∧r=.agg [.nils,.nils,.nils]∧L'=[])∨(r=.agg (qb4 R 901 902 903)∧L'=dkL R)
theorem qCO (d:DK) (hd:DkT d) (c:CO) (h:CoT c) (stage:Int) (fate:List Int) (hf:fate.length≤1048576) :
  ACall prog 47 [.agg d.row,.agg c.row,.int .i64 stage,.lst 1 (fate.map qac)] [] (cuQ (qrV d c stage fate)):=by
 obtain⟨R,hR⟩:∃ R,qrV d c stage fate=R:=⟨_,rfl⟩;rw[hR];unfold qrV at hR;have c0:=qpa d hd c h;have c3:=qok d hd fate hf;simp only[DK.row,CO.row,qb4,dkL]at c0 c3;refine acx func47 [] ntmps47 rfl rfl rfl ?_;simp[DK.row,CO.row];refine c0.call ?_;by_cases hok:qbw d=false∨qap c=false∨d.s0.length≤13
 ·rw[if_pos hok]at hR;subst hR;rw[show(qbw d && qap c && decide (13<d.s0.length))=false by
   rcases hok with e | e | e
   ·rw[e];rfl
   ·rw[e];simp
   ·simp;omega]
  simp;exact⟨[],by simp,.inl ⟨rfl,rfl,rfl⟩⟩
 ·have ho:qbw d=true∧qap c=true∧13<d.s0.length:=by
   refine⟨?_,?_,?_⟩
   ·cases e:qbw d with
    | true=>rfl
    | false=>exact absurd (.inl e) hok
   ·cases e:qap c with
    | true=>rfl
    | false=>exact absurd (.inr (.inl e)) hok
   ·have:¬ d.s0.length≤13:=fun e=>hok (.inr (.inr e));omega
  obtain⟨o1,o2,o3⟩:=ho;rw[if_neg hok]at hR;rw[show(qbw d && qap c && decide (13<d.s0.length))=true by simp[o1,o2,o3]];obtain⟨hm,k1,k2,k3,k4,k5,k6,k7⟩:=qb1 o2;have c5:=qCI d o1 c h o2;unfold qnd at hR;simp only[DK.row,CO.row]at c5;simp[DK.row,CO.row];refine qad [] (by kernel_rfl) c5 (by simp[qae,LT.row,qbO,DE.row,PT.row,qac]) (by simp) trivial (by simp) (by simp) ?_;rintro r L' (⟨hma,rfl,rfl⟩ | ⟨hma,rfl,rfl⟩)
  ·rw[if_pos hma]at hR;subst hR;refine⟨[],⟨by simp,by simp,by simp,by simp,by simp⟩,?_⟩;simp only[qaf];simp;refine qad [] (by kernel_rfl) c3 (by simp[qae,LT.row,qac]) (by simp) trivial (by simp) (by simp) ?_;rintro r L' ⟨rfl,rfl⟩;refine⟨[(901,901),(902,902),(903,903)],⟨by simp,by simp,by simp,by simp,by simp⟩,?_⟩;simp only[qaf];simp;exact⟨dkL (qcy d fate),by simp[dkL,qag],.inr ⟨rfl,rfl⟩⟩
  ·rw[if_neg (by simp[hma])]at hR;have hma2:=hma;simp only[qdJ,Bool.and_eq_true,decide_eq_true_eq]at hma2;have c6:=qCH d o1 c h o2 hma2.2 hma2.1;have hb1:=qiU o1 c;have hl:ldB d c=(qhn (qbt (qaq d c).1.d) (c.txg+1) (qaq d c).2.2).1:=rfl;have hf1:=qhM hb1.1;have hr1:qbw (ldB d c)=true:=by
    rw[hl];exact(qb2 hf1.1 _ _).1
   rw[← hl]at hR;have c7:=qok (qaq d c).1.d (qdE hb1.1) fate hf;have c8:=qok (ldB d c) (qdE hr1) fate hf;clear hl hf1;generalize ldB d c=ld at *
   generalize (qaq d c).1=B at *
   obtain⟨bd,bf,bok⟩:=B;simp only at hR c7;simp only[DK.row,qb4,dkL]at c7 c8;refine⟨[(1000,800),(1001,801),(1002,802),(1003,803),(1004,804),(1005,805),(1006,806),(1007,807),(1008,808)],⟨by simp[cmL],by simp,by simp,by simp[cmL],by simp⟩,?_⟩;simp only[qaf];simp[cmL,cmR];refine qad [(1000,.whole 800),(1001,.whole 801),(1002,.whole 802),(1003,.whole 803),(1004,.whole 804),(1005,.whole 805),(1006,.whole 806),(1007,.whole 807),(1008,.whole 808)] (by kernel_rfl) c6 (by simp) (by simp) (by simp[cmL,cmR];exact⟨.inr ⟨_,_,rfl,rfl,by simp⟩,qaa rfl (qaB _),qaa rfl (qaB _),qaa rfl (qcz _),qaa rfl (qbd _),qaa rfl (qbZ _),qaa rfl (qbL _),qaa rfl (qaU _),qaa rfl (qaU _)⟩) (by simp[cmL]) (by simp) ?_;rintro r L' (⟨h1,rfl,c',j,rfl⟩ | ⟨h1,rfl,D,c',j,i3,i7,h3,h7,rfl,hq⟩)
   ·simp only at h1;rw[if_pos (.inr h1)]at hR;subst hR;refine⟨[(903,813),(906,816),(911,821),(912,822),(913,823)],⟨by simp[cmO],by simp,by simp,by simp[cmO],by simp⟩,?_⟩;simp only[qaf];by_cases q:stage≤0
    all_goals
     simp[cmO,cmT,qb4,q];refine qaJ [] (by kernel_rfl) c7 (by simp[qbW,mtA,qai,qbU,qal,qae,LT.row,qac]) (by simp) trivial (by simp) (by simp) ?_;rintro r L' ⟨rfl,rfl⟩;refine⟨by simp[noL],by simp[qai,qae,qbU,LT.row],[(901,901),(902,902),(903,903)],⟨by simp,by simp,by simp,by simp,by simp⟩,?_⟩;simp only[qaf];simp;exact⟨dkL (qcy bd fate),by simp[dkL,qag],.inr ⟨rfl,rfl⟩⟩
   ·simp only at h1;subst h1;simp only[qFO,qFX,or_false]at h3 h7;subst h3;subst h7;refine⟨[(903,813),(906,816),(907,817),(911,821),(912,822),(913,823),(921,831),(922,832),(923,833)],⟨by simp[cmO,qi0],by simp,by simp,by simp[cmO,qi0],by simp⟩,?_⟩;simp only[qaf];by_cases q:stage≤0
    ·rw[if_pos (.inl q)]at hR;subst hR;simp[cmO,cmT,qi0,qb4,q];refine qaJ [] (by kernel_rfl) c7 (by simp[qbW,mtA,qai,qbU,qal,qae,LT.row,qac]) (by simp) trivial (by simp) (by simp) ?_;rintro r L' ⟨rfl,rfl⟩;refine⟨by simp[noL],by simp[qai,qae,qbU,LT.row],[(901,901),(902,902),(903,903)],⟨by simp,by simp,by simp,by simp,by simp⟩,?_⟩;simp only[qaf];simp;exact⟨dkL (qcy bd fate),by simp[dkL,qag],.inr ⟨rfl,rfl⟩⟩
    ·rw[if_neg (by simp;omega)]at hR;subst hR;simp[cmO,cmT,qi0,qb4,q];refine qaJ [] (by kernel_rfl) c8 (by simp[qbW,mtA,qai,qbU,qal,qae,LT.row,qac]) (by simp) trivial (by simp) (by simp) ?_;rintro r L' ⟨rfl,rfl⟩;refine⟨by simp[noL],by simp[qai,qae,qbU,LT.row],[(901,901),(902,902),(903,903)],⟨by simp,by simp,by simp,by simp,by simp⟩,?_⟩;simp only[qaf];simp;exact⟨dkL (qcy ld fate),by simp[dkL,qag],.inr ⟨rfl,rfl⟩⟩
theorem qCP (d:DK) (hd:DkT d) (c:CO) (h:CoT c) (stage:Int) (fate:List Int) (hf:fate.length≤1048576) :
  ACall prog 47 [.agg d.row,.agg c.row,.int .i64 stage,.lst 1 (fate.map qac)] [] (fun r L'=>r=.agg (qb4 (qrV d c stage fate) 901 902 903)∧L'=dkL (qrV d c stage fate)):=by
 refine(qCO d hd c h stage fate hf).canN ?_;rintro r L' (⟨h1,rfl,rfl⟩ | ⟨rfl,rfl⟩)
 ·rw[h1];exact⟨[(901,1),(902,1),(903,3)],[],by simp,by simp,by simp,by simp,_,by simpa using quq,rfl,rfl⟩
 ·refine⟨[],[(901,901),(902,902),(903,903)],by simp[dkL],by simp,by simp,by simp[N0],_,qfV _ _,by simp[qb4],by simp[dkL,qag,N0]⟩
theorem qxt (d:DK) (c:CO) (stage:Int) (fate:List Int):DkT (qnd d c stage fate):=by
 unfold qnd;split
 ·exact qop _ _
 ·split
  ·exact qop _ _
  ·exact qop _ _
theorem qAx (d:DK) (c:CO) (stage:Int) (fate:List Int):DkT (qrV d c stage fate):=by
 unfold qrV;split
 ·exact qyo
 ·exact qxt _ _ _ _
theorem qBV (l:List Int) (hl:l.length≤1048576):CV prog 13 [.lst 1 (l.map qac)] (.lst 1 (l.map qac)):=by
 refine CV.of_frz (qpU l hl) ?_ (hca:=by simp[qac]) (hcv:=by simp[qac]);rintro r L' ⟨rfl,rfl⟩;refine⟨by simp,by simp,by simp[clR,qac],?_⟩;simp[qbe,qal]
end Go.Av.F
end
section
namespace Go.Av.F
open Go Go.Av Go.Proofs Go.Proofs.Tryz Go.RowKit Go.ChangeShapes Go.WideShapes Go.ChangeAt
variable {H:Type} {enc:TypeId×Value→H} {w:World} {base:Nat} {spare:Nat→Bool} {held:Bool}
theorem open_ints {r:Reach} {b0:Nat} {v:Value} {d:DataW H} {ps:List MemPlace} (hv:Value.okWide prog w r b0 35 v) (hd:DataW.Trod enc prog w 0 spare held 35 v d ps) :
  ∃ l:List Int,l.length≤maxLen∧AVRel w (Old w) noG (.lst 1 (l.map qac)) v:=by
 obtain⟨x,len,cap,rfl⟩:=okWide_slice underlying35 hv;obtain⟨a,hr,hs⟩:=qn0 (n:=2) rfl (by kernel_rfl) hd;obtain⟨e,m,e1,k⟩:=qh9 underlying35 hs;injection e1 with e1;subst e1;obtain⟨l,rfl,g⟩:=qj6 qac qpb e fun r hr=>qmy (k r hr);have c1:prog.cellsOf 3=1:=by kernel_rfl
 rw[c1]at hr;exact⟨l,by simpa using m,hr⟩
end Go.Av.F
end
section
namespace Go.Av.F
open Go Go.Av Go.Proofs Go.Proofs.Tryz
theorem qaM (x y:List UInt8) (r:List (List UInt8)) (c:UInt8):Lib.join (x::y::r) [c]=x++c::Lib.join (y::r) [c]:=by
 rw[Lib.join_cons,Lib.join_cons];simp[Lib.joinTail]
theorem qnc (c:UInt8) (s cur:List UInt8):qaF c s cur≠[]:=fun h=>by
 have:=qkK c s cur;rw[h]at this;simp at this
theorem qdy (c:UInt8):∀ (s cur:List UInt8),Lib.join (qaF c s cur) [c]=cur++s
 | [],cur=>by simp[qaF,Lib.join_one]
 | x::r,cur=>by
  unfold qaF;by_cases h:x=c
  ·rw[if_pos h];subst h;have ih:=qdy x r [];cases hr:qaF x r []with
   | nil=>exact absurd hr (qnc _ _ _)
   | cons y q =>
    rw[hr]at ih;rw[qaM,ih];simp
  ·rw[if_neg h,qdy c r (cur++[x])];simp
theorem qkM (c:UInt8):∀ (w r cur:List UInt8),(∀ x∈w,x≠c)→qaF c (w++c::r) cur=(cur++w)::qaF c r []
 | [],r,cur,_=>by simp[qaF]
 | x::w,r,cur,h=>by
  have hx:=h x (by simp);rw[qGh,qaF,if_neg hx,qkM c w r _ fun y hy=>h y (by simp[hy])];simp
theorem qkL (c:UInt8):∀ (w cur:List UInt8),(∀ x∈w,x≠c)→qaF c w cur=[cur++w]
 | [],cur,_=>by simp[qaF]
 | x::w,cur,h=>by
  rw[qaF,if_neg (h x (by simp)),qkL c w _ fun y hy=>h y (by simp[hy])];simp
theorem qdd (c:UInt8):∀ (ws:List (List UInt8)),ws≠[]→(∀ w∈ws,∀ x∈w,x≠c)→qaF c (Lib.join ws [c]) []=ws
 | [],h,_=>absurd rfl h
 | [w],_,h=>by
  rw[Lib.join_one,qkL c w [] (h w (by simp))];simp
 | w::v::r,_,h=>by
  rw[qaM,qkM c w _ [] (h w (by simp)),qdd c (v::r) (by simp) fun u hu=>h u (by simp[hu])];simp
theorem qot (n:Nat):∀ x∈Lib.decDigits n,48≤x.toNat∧x.toNat≤57:=by
 induction n using Nat.strongRecOn with
 | _ n ih =>
  intro x hx;rw[Lib.decDigits]at hx;split at hx
  ·rename_i h;simp only[qGX]at hx;subst hx;rw[qjc h];omega
  ·rename_i h;rcases qFQ.1 hx with hx | hx
   ·exact ih (n / 10) (by omega) x hx
   ·simp only[qGX]at hx;subst hx;rw[qjc (by omega)];omega
theorem qgG (n:Int) (c:UInt8) (hc:c.toNat<48) (h45:c≠45):∀ x∈Lib.itoa n,x≠c:=by
 intro x hx;unfold Lib.itoa at hx;split at hx
 ·rcases qFO.1 hx with rfl | hx
  ·exact fun e=>h45 e.symm
  ·have:=qot _ x hx;rintro rfl;omega
 ·have:=qot _ x hx;rintro rfl;omega
theorem qeq (n:Int) (h:0≤n):Lib.itoa n=dec n:=by
 have e:n=((n.toNat:Nat):Int):=by omega
 rw[e,qkl];rfl
theorem qdf {t:List UInt8} (h:qdB t=true):Lib.itoa (qaE t)=t:=by
 simp only[qdB,Bool.and_eq_true,decide_eq_true_eq]at h;exact h.2
def qk4 (t:List UInt8):Option (Int×Int×Int) :=
 match qaF 46 t []with
 | [a,b,c]=>if qdB a=true∧qdB b=true∧qdB c=true then some (qaE a,qaE b,qaE c) else none
 | _=>none
theorem qk2 {t:List UInt8} {a b c:Int} (h:qk4 t=some (a,b,c)):Lib.join [Lib.itoa a,Lib.itoa b,Lib.itoa c] [46]=t:=by
 unfold qk4 at h;split at h
 ·rename_i x y z hc;split at h
  ·rename_i hq;simp only[qEd,qEe]at h;obtain⟨rfl,rfl,rfl⟩:=h;have:=qdy 46 t [];rw[hc]at this;rw[qdf hq.1,qdf hq.2.1,qdf hq.2.2];simpa using this
  ·cases h
 ·cases h
theorem qpQ (a b c:Int) (ha:qpb a) (hb:qpb b) (hc:qpb c):qk4 (Lib.join [Lib.itoa a,Lib.itoa b,Lib.itoa c] [46])=some (a,b,c):=by
 have h1:∀ n:Int,∀ x∈Lib.itoa n,x≠(46:UInt8):=fun n=>qgG n 46 (by decide) (by decide);unfold qk4;rw[qdd 46 _ (by simp) (by
  intro w hw;simp only[qFO,qFX,or_false]at hw;rcases hw with rfl | rfl | rfl
  ·exact h1 _
  ·exact h1 _
  ·exact h1 _)]
 obtain⟨a1,a2⟩:=qjK ha.1 ha.2;obtain⟨b1,b2⟩:=qjK hb.1 hb.2;obtain⟨c1,c2⟩:=qjK hc.1 hc.2;simp[a1,a2,b1,b2,c1,c2]
def qbM (t:List UInt8):PT×Bool :=
 if t=[45] then (⟨0,0,0⟩,true) else
 match qk4 t with
 | some (a,b,c)=>if qan ⟨a,b,c⟩=true then (⟨a,b,c⟩,true) else (⟨0,0,0⟩,false)
 | none=>(⟨0,0,0⟩,false)
theorem qdX {p:PT} (h:qan p=true):qaI p=true∧p.pa≠0:=by
 simpa [qan]using h
theorem qdo {p:PT} (h:qan p=true):qaL p=Lib.join [Lib.itoa p.pa,Lib.itoa p.ps,Lib.itoa p.pb] [46]:=by
 obtain⟨h1,h2⟩:=qdX h;have hb:=qjs h1;unfold qaL;rw[if_neg (by simp[h1]),if_neg h2,qeq _ (by omega),qeq _ (by omega),qeq _ (by omega),qaM,qaM,Lib.join_one]
theorem qim {t:List UInt8} (h:(qbM t).2=true):qaL (qbM t).1=t∧qaI (qbM t).1=true:=by
 unfold qbM at h ⊢;split at h
 ·rename_i ht;rw[if_pos ht];subst ht;exact⟨by decide,by decide⟩
 ·rename_i ht;rw[if_neg ht];split at h
  ·rename_i a b c htr;split at h
   ·rename_i hq;simp only[hq,if_true];rw[qdo hq];exact⟨qk2 htr,(qdX hq).1⟩
   ·simp at h
  ·simp at h
theorem qgz {p:PT} (h:qaI p=true):qbM (qaL p)=(p,true):=by
 have hb:=qjs h;by_cases h0:p.pa=0
 ·obtain⟨pa,ps,pb⟩:=p;simp only at h0 hb;subst h0;have:ps=0∧pb=0:=by simpa [qaI]using h
  obtain⟨rfl,rfl⟩:=this;decide
 ·have hq:qan p=true:=by simp[qan,h,h0]
  rw[qdo hq];have ht:=qpQ p.pa p.ps p.pb ⟨by omega,by omega⟩ ⟨by omega,by omega⟩ ⟨by omega,by omega⟩;unfold qbM;rw[ht];have hne:Lib.join [Lib.itoa p.pa,Lib.itoa p.ps,Lib.itoa p.pb] [46]≠[45]:=fun e=>by
   rw[e]at ht;simp[qk4,qaF]at ht
  rw[if_neg hne];simp[hq]
theorem qnk (s:List UInt8):qpb (qaE s):=by
 unfold qaE;cases h:Lib.atoiAll s with
 | ok v =>
  simp only;unfold Lib.atoiAll at h;split at h
  ·cases h
  ·simp only at h;split at h
   ·cases h
   ·cases h
   ·rename_i u hu;split at h
    ·cases h
    ·split at h
     ·cases h
     ·injection h with h;subst h;rename_i h1 h2;unfold qpb;split
      ·rename_i hn;have:¬ 9223372036854775808<u:=fun e=>h2 ⟨hn,e⟩;omega
      ·rename_i hn;have:¬ 9223372036854775808≤u:=fun e=>h1 ⟨hn,e⟩;omega
 | range =>
  simp only[Lib.atoiSat,qpb];split <;> omega
 | _=>simp[qpb]
theorem qoW {t:List UInt8} (h:(qbM t).2=false):qbM t=(⟨0,0,0⟩,false):=by
 unfold qbM at h ⊢;split
 ·rename_i ht;rw[if_pos ht]at h;simp at h
 ·rename_i ht;rw[if_neg ht]at h;split
  ·rename_i a b c htr;split
   ·rename_i hq;rw[htr]at h;simp[hq]at h
   ·rfl
  ·rfl
theorem qk3 {t:List UInt8} {a b c:List UInt8} (h:qaF 46 t []=[a,b,c]):qk4 t=if qdB a=true∧qdB b=true∧qdB c=true then some (qaE a,qaE b,qaE c) else none:=by
 unfold qk4;rw[h]
theorem qh2 {t:List UInt8} (h:(qaF 46 t []).length≠3):qk4 t=none:=by
 unfold qk4;split
 ·rename_i a b c hc;rw[hc]at h;simp at h
 ·rfl
theorem qnV {t:List UInt8} (h:qk4 t=none) (ht:t≠[45]):qbM t=(⟨0,0,0⟩,false):=by
 unfold qbM;rw[if_neg ht,h]
theorem qum {t a b c:List UInt8} (h:qaF 46 t []=[a,b,c]) (ht:t≠[45]) :
  qbM t=if qdB a=true∧qdB b=true∧qdB c=true∧qan ⟨qaE a,qaE b,qaE c⟩=true then (⟨qaE a,qaE b,qaE c⟩,true) else (⟨0,0,0⟩,false):=by
 unfold qbM;rw[if_neg ht,qk3 h];by_cases h1:qdB a=true∧qdB b=true∧qdB c=true
 ·rw[if_pos h1];obtain⟨h2,h3,h4⟩:=h1;simp only[h2,h3,h4,true_and]
 ·rw[if_neg h1,if_neg (fun e=>h1 ⟨e.1,e.2.1,e.2.2.1⟩)]
theorem qqQ {t a b c:List UInt8} (h:qaF 46 t []=[a,b,c]) (ht:t≠[45]) :
  qbM t=if (qax a).2=true∧(qax b).2=true∧(qax c).2=true∧qaL ⟨(qax a).1,(qax b).1,(qax c).1⟩=t then (⟨(qax a).1,(qax b).1,(qax c).1⟩,true) else (⟨0,0,0⟩,false):=by
 have hj:=qdy 46 t [];rw[h]at hj;by_cases hs:(qax a).2=true∧(qax b).2=true∧(qax c).2=true∧qaL ⟨(qax a).1,(qax b).1,(qax c).1⟩=t
 ·rw[if_pos hs];obtain⟨s1,s2,s3,s4⟩:=hs;have hok:qaI ⟨(qax a).1,(qax b).1,(qax c).1⟩=true:=by
   cases hk:qaI ⟨(qax a).1,(qax b).1,(qax c).1⟩with
   | true=>rfl
   | false =>
    rw[qaL,if_pos hk]at s4;subst s4;simp[qaF]at h
  rw[← s4];exact qgz hok
 ·rw[if_neg hs,qum h ht];split
  ·rename_i hq;exfalso;obtain⟨c1,c2,c3,hr⟩:=hq;have hb:=qjs (qdX hr).1;simp only at hb;have n1:=(qfb a).1 ⟨c1,by omega⟩;have n2:=(qfb b).1 ⟨c2,by omega⟩;have n3:=(qfb c).1 ⟨c3,by omega⟩;refine hs ⟨n1,n2,n3,?_⟩;rw[← qg5 n1,← qg5 n2,← qg5 n3,qdo hr];simp only;rw[qdf c1,qdf c2,qdf c3];simpa using hj
  ·rfl
theorem qd9 {α:Type} {l:List α} (h:l.length=3):∃ a b c,l=[a,b,c]:=by
 match l,h with
 | [a,b,c],_=>exact⟨a,b,c,rfl⟩
theorem qfQ (t:List UInt8) (hl:t.length≤1048576):CV prog 157 [.str t] (.tup [.agg (qbM t).1.row,.bool (qbM t).2]):=by
 have c1:=qj3 t 46 hl;have hw:=qbp 46 t [];have hnum:=qde 46 t [];refine cvx func157 [] ntmps157 rfl rfl rfl ?_ (hcv:=by simp[PT.row]);by_cases h1:t=[45]
 ·subst h1;simp[qbM,PT.row]
 simp[h1];refine c1.call ?_;by_cases h3:(qaF 46 t []).length=3
 ·obtain⟨a,b,c,hc⟩:=qd9 h3;rw[hc]at hw;have n1:=qh8 a (by have:=hw a (by simp);simp at this;omega);have n2:=qh8 b (by have:=hw b (by simp);simp at this;omega);have n3:=qh8 c (by have:=hw c (by simp);simp at this;omega);have hsp:=qqQ hc h1;have tx:=qeI ⟨(qax a).1,(qax b).1,(qax c).1⟩;simp only[PT.row]at tx;by_cases h30:30<t.length
  ·have hf:(qbM t).2=false:=by
    cases hk:(qbM t).2 with
    | false=>rfl
    | true =>
     have:=qbn (qbM t).1;rw[(qim hk).1]at this;omega
   rw[qoW hf];simp[hc,qcr,PT.row,show(30:Int)<t.length by omega,h30]
  ·simp[hc,qcr,PT.row,show ¬ (30:Int)<t.length by omega,h30];refine n1.call ?_;simp;refine n2.call ?_;simp;refine n3.call ?_;rw[hsp];generalize qax a=A at *
   generalize qax b=B at *
   generalize qax c=C at *
   obtain⟨av,ak⟩:=A;obtain⟨bv,bk'⟩:=B;obtain⟨cv,ck⟩:=C;simp only at tx;cases ak with
   | false=>simp[PT.row]
   | true =>
    cases bk' with
    | false=>simp[PT.row]
    | true =>
     cases ck with
     | false=>simp[PT.row]
     | true =>
      simp[PT.row];refine tx.call ?_;by_cases he:qaL ⟨av,bv,cv⟩=t
      ·simp[he,PT.row]
      ·simp[he,PT.row]
 ·rw[qnV (qh2 h3) h1];simp[qcr,h3,show ¬ ((qaF 46 t []).length:Int)=3 by omega,PT.row]
theorem qtb (l:List Int) (hl:l.length≤10) (h:∀ x∈l,qpb x):CV prog 263 [.lst 1 (l.map qac)] (.str (Lib.join (l.map Lib.itoa) [46])):=by
 have hlen:∀ x∈l.map Lib.itoa,x.length≤20:=fun x hx=>by
  obtain⟨n,hn,rfl⟩:=qER.1 hx;have:=h n hn;unfold qpb at this;unfold Lib.itoa;split
  ·have:=qkE n.natAbs 19 (by omega) (by omega);simp;omega
  ·have:=qkE n.toNat 19 (by omega) (by omega);omega
 have hj:=qf3 [46] 20 (l.map Lib.itoa) hlen;simp only[qFs]at hj;have cj:=qjA (l.map Lib.itoa) [46] (by simp;omega) (by simp at hj;omega);refine cvx func263 [] ntmps263 rfl rfl rfl ?_ (hca:=by simp[qac]);simp;refine qeW (qjT 3 1 (by simp) (by simp)) ?_;refine qbj (X:=Nat) [2,3,6,7,8] [(3,900)] (fun i=>[(3,.sl 900 0 i),(8,.int .i64 i)]) (fun i=>[(900,qai ((l.take i).map Lib.itoa))]) (fun i=>l.length-i) (fun i=>i≤l.length) 0 (by simp) ?_ (he:=by simp[qag,qai]);intro i hi;cases hr:l.drop i with
 | nil =>
  have:=qaY hr;have hie:i=l.length:=by omega
  subst hie;rw[qGm];simp;refine cj.view (by simp[qbW,mtA,qai,qae,qEF]) ?_;simp
 | cons x r =>
  obtain⟨g1,e0,e1,g3⟩:=qaZ hr;have hx:=h x (qGj e1);have cd:=qwM x hx.1 hx.2;have e2:=qao ((i:Int)+1) (by omega) (by omega);simp[g1,e0,e1,qac];refine cd.call ?_;simp[qai];have hmin:min i l.length=i:=by omega
  exact⟨by omega,nx (i+1) [(16,900)] (by omega) (h4:=by
   have ht:=tk1 (qae ∘ Lib.itoa) e1;simp[qai,ht,qEF,hmin,e2];simp[qae])⟩
theorem qsr {t a b c:List UInt8} (h:qaF 46 t []=[a,b,c]) (h1:qbA a=true) (h2:qbA b=true) (h3:qbA c=true) :
  (Lib.join [Lib.itoa (qaE a),Lib.itoa (qaE b),Lib.itoa (qaE c)] [46]=t)↔(qdB a=true∧qdB b=true∧qdB c=true):=by
 have hj:=qdy 46 t [];rw[h]at hj;have hn:∀ n:Int,∀ x∈Lib.itoa n,x≠(46:UInt8):=fun n=>qgG n 46 (by decide) (by decide);constructor
 ·intro e;have hc:=qdd 46 [Lib.itoa (qaE a),Lib.itoa (qaE b),Lib.itoa (qaE c)] (by simp) (by
   intro w hw;simp only[qFO,qFX,or_false]at hw;rcases hw with rfl | rfl | rfl
   ·exact hn _
   ·exact hn _
   ·exact hn _)
  rw[e,h]at hc;simp only[qFU,and_true]at hc;obtain⟨e1,e2,e3⟩:=hc;simp only[qdB,h1,h2,h3,qGE,decide_eq_true_eq];exact⟨e1.symm,e2.symm,e3.symm⟩
 ·rintro⟨c1,c2,c3⟩;rw[qdf c1,qdf c2,qdf c3];simpa using hj
def thB (t:List UInt8):(Int×Int×Int)×Bool :=
 match qaF 46 t []with
 | [a,b,c]=>if qbA a=true∧qbA b=true∧qbA c=true then ((qaE a,qaE b,qaE c),decide (qdB a=true∧qdB b=true∧qdB c=true)) else ((0,0,0),false)
 | _=>((0,0,0),false)
theorem qvw {t a b c:List UInt8} (h:qaF 46 t []=[a,b,c]):thB t=if qbA a=true∧qbA b=true∧qbA c=true then ((qaE a,qaE b,qaE c),decide (qdB a=true∧qdB b=true∧qdB c=true)) else ((0,0,0),false):=by
 unfold thB;rw[h]
theorem qvv {t:List UInt8} (h:(qaF 46 t []).length≠3):thB t=((0,0,0),false):=by
 unfold thB;split
 ·rename_i a b c hc;rw[hc]at h;simp at h
 ·rfl
theorem qrj (t:List UInt8) (hl:t.length≤1048576):CV prog 184 [.str t] (.tup [.int .i64 (thB t).1.1,.int .i64 (thB t).1.2.1,.int .i64 (thB t).1.2.2,.bool (thB t).2]):=by
 have c1:=qh7 t 46 hl;have hw:=qbp 46 t [];have hnum:=qde 46 t [];by_cases h3:(qaF 46 t []).length=3
 ·obtain⟨a,b,c,hc⟩:=qd9 h3;rw[hc]at hw c1;have la:=hw a (by simp);have lb:=hw b (by simp);have lc:=hw c (by simp);simp at la lb lc;have n1:=qmi a (by omega);have n2:=qmi b (by omega);have n3:=qmi c (by omega);obtain⟨R,hR⟩:∃ R,thB t=R:=⟨_,rfl⟩;rw[hR];rw[qvw hc]at hR;have cp:=qtb [qaE a,qaE b,qaE c] (by simp) (by
   intro x hx;simp only[qFO,qFX,or_false]at hx;rcases hx with rfl | rfl | rfl
   ·exact qnk _
   ·exact qnk _
   ·exact qnk _)
  have heq:=@qsr t a b c hc;refine cvx func184 [(13,[zI 0,zJ 1 [7] [],zJ 2 [] [7],zJ 3 [7] [7],zJ 4 [] [7],zJ 5 [7] [7],zJ 6 [] [7],zJ 7 [7] [7],zJ 8 [] [7],zJ 9 [7] [7],zJ 10 [] [7],zJ 11 [7] [7],zJ 14 [] [7],zJ 12 [] [7],zJ 13 [] [7],zJ 15 [] [7],zJ 16 [] [7],zJ 17 [] [7],zI 18,zI 19])] ntmps184 rfl rfl rfl ?_;simp;refine c1.call ?_;simp only[qcr,qac,qEQ,qF3]at c1 cp;simp[qcr];refine qaS (X:=Nat) [0,7,17,18,19] [(7,7)] (fun i=>[(19,.int .i64 i)]) (fun i=>[(7,⟨3,[[.int .i64 (if 0<i then qaE a else 0),.int .i64 (if 1<i then qaE b else 0),.int .i64 (if 2<i then qaE c else 0)]]⟩)]) (fun i=>3-i)
   (fun i=>(i=0∨(i=1∧qbA a=true)∨(i=2∧qbA a=true∧qbA b=true)∨(i=3∧qbA a=true∧qbA b=true∧qbA c=true))) 0 (.inl rfl) ?_ (he:=by simp[qag])
  rintro i (rfl | ⟨rfl,k1⟩ | ⟨rfl,k1,k2⟩ | ⟨rfl,k1,k2,k3⟩)
  ·simp[qag,qcr];refine n1.call ?_;cases hk:qbA a with
   | false =>
    rw[if_neg (by simp[hk])]at hR;simp[qhO,← hR]
   | true =>
    simp[qhO];exact nx 1 [(7,7)] (by simp[hk]) (h4:=by simp[qag])
  ·simp[qag,qcr];refine n2.call ?_;cases hk:qbA b with
   | false =>
    rw[if_neg (by simp[hk])]at hR;simp[qhO,← hR]
   | true =>
    simp[qhO];exact nx 2 [(7,7)] (by simp[hk,k1]) (h4:=by simp[qag])
  ·simp[qag,qcr];refine n3.call ?_;cases hk:qbA c with
   | false =>
    rw[if_neg (by simp[hk])]at hR;simp[qhO,← hR]
   | true =>
    simp[qhO];exact nx 3 [(7,7)] (by simp[hk,k1,k2]) (h4:=by simp[qag])
  ·rw[if_pos ⟨k1,k2,k3⟩]at hR;simp[qag];refine cp.view (by simp[qbW,mtA]) ?_;simp[← hR];have:=heq k1 k2 k3;rw[qGK];simp[this]
 ·rw[qvv h3];refine cvx func184 [(13,[zI 0,zJ 1 [7] [],zJ 2 [] [7],zJ 3 [7] [7],zJ 4 [] [7],zJ 5 [7] [7],zJ 6 [] [7],zJ 7 [7] [7],zJ 8 [] [7],zJ 9 [7] [7],zJ 10 [] [7],zJ 11 [7] [7],zJ 14 [] [7],zJ 12 [] [7],zJ 13 [] [7],zJ 15 [] [7],zJ 16 [] [7],zJ 17 [] [7],zI 18,zI 19])] ntmps184 rfl rfl rfl ?_;simp;refine c1.call ?_;simp[qcr,h3,show ¬ ((qaF 46 t []).length:Int)=3 by omega]
theorem qeQ (t:List UInt8) (hl:t.length≤1048576):CV prog 183 [.str t] (.tup [.agg (qbM t).1.row,.bool (qbM t).2]):=by
 have c1:=qrj t hl;refine cvx func183 [] ntmps183 rfl rfl rfl ?_ (hcv:=by simp[PT.row]);by_cases h1:t=[45]
 ·subst h1;simp[qbM,PT.row]
 simp[h1];refine c1.call ?_;have c2:=qoV ⟨(thB t).1.1,(thB t).1.2.1,(thB t).1.2.2⟩;simp only[PT.row]at c2;by_cases h3:(qaF 46 t []).length=3
 ·obtain⟨a,b,c,hc⟩:=qd9 h3;have e1:=qum hc h1;have e2:=qvw hc;by_cases hk:qbA a=true∧qbA b=true∧qbA c=true
  ·rw[if_pos hk]at e2;by_cases hq:qdB a=true∧qdB b=true∧qdB c=true
   ·rw[show decide (qdB a=true∧qdB b=true∧qdB c=true)=true by simpa using hq]at e2;rw[e2]at c2 ⊢;simp only at c2;obtain⟨q1,q2,q3⟩:=hq;simp only[q1,q2,q3,true_and]at e1;rw[e1];simp[PT.row];refine c2.call ?_;cases hr:qan ⟨qaE a,qaE b,qaE c⟩with
    | false=>simp[PT.row]
    | true=>simp[PT.row]
   ·rw[show decide (qdB a=true∧qdB b=true∧qdB c=true)=false by simpa using hq]at e2;rw[if_neg (fun e=>hq ⟨e.1,e.2.1,e.2.2.1⟩)]at e1;rw[e1,e2];simp[PT.row]
  ·rw[if_neg hk]at e2;have hq:¬ (qdB a=true∧qdB b=true∧qdB c=true∧qan ⟨qaE a,qaE b,qaE c⟩=true):=fun e=>by
    have h1:=e.1;have h2:=e.2.1;have h3:=e.2.2.1;simp only[qdB,Bool.and_eq_true]at h1 h2 h3;exact hk ⟨h1.1,h2.1,h3.1⟩
   rw[if_neg hq]at e1;rw[e1,e2];simp[PT.row]
 ·rw[qnV (qh2 h3) h1,qvv h3];simp[PT.row]
end Go.Av.F
end
