/- Lemmas for the proof, no statement of the seat; no conditions. -/
import Derived.Test.YthiidgicibfbjaaGreatDoorLayAS
set_option linter.unusedSimpArgs false
set_option linter.unusedVariables false
set_option linter.unnecessarySimpa false
set_option maxRecDepth 100000
section
namespace Go.Av.F
open Go Go.Av
open Go.Proofs Go.Proofs.Tryz
attribute [-simp] qdK hdS qaw qah qao
attribute [local simp] tt3 tt4 tt9 tt5 qvq qmv qyz qpP qsn qxS
theorem qoZ (o1 o2:Ob) (h1:o1.sz=3) (h2:o2.sz=3) (e1 len1 e2 len2:Nat) :
  ACall Go.Proofs.Tryz.prog 370 [.sl 1001 e1 len1,.sl 1000 e2 len2] [(1000,o2),(1001,o1)] (fun r L'=>r=.bool false∧L'=[(1000,o2),(1001,o1)]) :=
 qlx (tS:=43) (tR:=4) (e:=110) Go.Proofs.Tryz.func370 (by kernel_rfl) (by kernel_rfl) (by kernel_rfl) (by kernel_rfl) qvq rfl qmv (by simp) o1 o2 h1 h2 e1 len1 e2 len2
theorem qs6 (rows:List (List AV)) (row:List AV) (i:Nat) (hi:i≤rows.length) (hl:rows.length<2000000) (hrow:row.length=3) (hr1:∀ r∈rows,r.length=3) (ho:row.all qda=true) (hro:rows.all (fun r=>r.all qda)=true)
  (hc:clL row=true) (hrc:clR rows=true) :
  ACall Go.Proofs.Tryz.prog 336 [.sl 1000 0 rows.length,.int .i64 i,.sl 1001 0 1] [(1000,⟨3,rows⟩),(1001,⟨3,[row]⟩)] (qBp 3 25 40 rows row i):=by
 refine ACall.weak (R:=fun r L'=>∃ L2,wkL L' L2∧qBp 3 25 40 rows row i (unc r) L2) (ACall.cap (by simp) fun cap hcap=>?_) (fun r L' h=>h);obtain⟨els,hels⟩:∃ els,(qcK ⟨3,rows⟩ cap)=⟨3,els⟩:=⟨_,rfl⟩;have hel:els.length=cap:=by
  have:=congrArg (fun o:Ob=>o.els.length) hels;simp[qcK]at this;omega
 have het:els.take rows.length=rows:=by
  have:=congrArg (fun o:Ob=>o.els.take rows.length) hels;simp[qcK]at this;exact this.symm
 have hcl:clR els=true:=by
  have:=congrArg (fun o:Ob=>clR o.els) hels;simp only[qcK]at this;rw[← this];simp only[clR,qGd,Bool.and_eq_true]at hrc ⊢;refine⟨hrc,?_⟩;rw[qED];intro x hx;rw[qFJ hx];rfl
 have hm:∀ ρ,els.map (qb3 ρ)=els:=fun ρ=>qj7 ρ hcl;have hm2:∀ ρ,qb3 ρ row=row:=fun ρ=>renL_closed.renL_closedL ρ row hc;rw[hels];clear hels;have w1:IntKind.i64.wrap ((rows.length:Int)+1)=(rows.length:Int)+1:=qaK _ (by omega);refine acx func336 [(11,[zI 0,zI 1,zI 2,zI 3,zJ 4 [40,1000] [],zJ 5 [] [40,1000],zJ 6 [] [40,1000],zJ 7 [40,1000] [40,1000],zI 8]),(15,[zI 0,zI 1,zI 2,zI 3,zJ 4 [1000] [],zJ 5 [] [1000],zJ 6 [] [1000],zJ 7 [1000] [1000],zI 8])] ntmps336 rfl rfl rfl ?_;have e1:rows.take rows.length=rows:=qGm;by_cases h1:i=rows.length
 ·subst h1;by_cases h2:rows.length+1≤cap
  ·simp[h2,hrow,hel,hcap];refine⟨by simpa using ho,[(1000,⟨3,spl els rows.length [row]⟩)],by simp,_,.cons 1000 _ (rows.length+1) .nil,1000,.inl rfl,rfl,?_⟩;have:=qe3 els rows.length [row] (by omega);simp only[qEI,qFE,qFB]at this;simp[qpC,this,het]
  ·simp[h2,hrow,hel,hcap,het];refine⟨by omega,[(25,⟨3,rows++[row]⟩)],by simp,_,.cons 25 _ (rows.length+1) .nil,25,.inr (.inl rfl),rfl,?_⟩;rw[qEF (by simp)];simp[qpC]
 ·have hi':i<rows.length:=by omega
  have h1':¬ (i:Int)=rows.length:=by omega
  have w2:IntKind.i64.wrap ((i:Int)+1)=((i+1:Nat):Int):=by rw[qaK _ (by omega)];omega
  have w4:IntKind.i64.wrap ((rows.length:Int)+1-(i:Int))=((rows.length+1-i:Nat):Int):=by rw[qaK _ (by omega)];omega
  have hall:∀ x∈rows,∀ y∈x,qda y=true:=fun x hx y hy=>qED.1 (qED.1 hro x hx) y hy;have g1:rows.length+1≤cap→min (rows.length+1-i) (min (cap-i) (rows.length-i))=rows.length-i:=fun _=>by omega
  have g2:min 1 (rows.length+1-i)=1:=by omega
  have g5:(els.drop i).take (rows.length-i)=rows.drop i:=by
   conv=>rhs;rw[← het]
   rw[qFG]
  have g3:List.take (rows.length-i) (List.take (rows.length+1-i) (List.drop i els))=rows.drop i:=by
   rw[qFI,qFH (by omega),g5]
  by_cases h2:rows.length+1≤cap
  ·have g1:=g1 h2;have h2':¬ (cap:Int)<(rows.length:Int)+1:=by omega
   simp[h1,h1',h2,h2',hrow,hel,hcap,w1,w2,w4];refine⟨by omega,by omega,⟨by omega,by omega⟩,?_⟩;refine qad [(1000,.whole 1000),(1001,.whole 1001)] (by kernel_rfl) (qoZ ⟨3,[row]⟩ ⟨3,els⟩ rfl rfl 0 1 (i+1) (rows.length-i)) (by simp) (by simp) (by simp;exact⟨qaa rfl hcl,qaa rfl (by simp[clR,hc])⟩) (by simp) (by simp) ?_;rintro r L' ⟨rfl,rfl⟩;refine⟨[],⟨by simp,by simp,by simp,by simp,by simp⟩,?_⟩;simp[hm,hm2,w2,hel,hrow];rw[g1,g2,g3,qEF (by simp:[row].length≤1)];have g4:=qbP els (i+1) (rows.drop i) (by omega);refine⟨⟨by omega,by omega,by omega⟩,⟨by omega,by omega⟩,⟨by omega,by omega,fun x hx y hy=>hall x (qGH hx) y hy⟩,⟨by omega,by omega⟩,⟨by simp at g4;omega,fun x hx y hy=>?_⟩,
    [(1000,⟨3,spl (spl els (i+1) (rows.drop i)) i [row]⟩)],by simp,_,.cons 1000 _ (rows.length+1) .nil,1000,.inl rfl,rfl,?_⟩
   ·have:x=row:=by simpa using hx
    subst this;exact qED.1 ho y hy
   ·rw[qlH els rows row i het (by omega) hi'];rfl
  ·have h2':(cap:Int)<(rows.length:Int)+1:=by omega
   simp[h1,h1',h2,h2',hrow,hel,hcap,w1,w2,w4];have c1:cap=rows.length:=by omega
   subst c1;have g6:min (rows.length-i) (min (rows.length-i) (i+(rows.length+1-i)-(i+1)))=rows.length-i:=by omega
   have g7:List.take (rows.length-i) (rows.drop i)=rows.drop i:=qEF (by simp);have g8:i+(rows.length+1-i)=rows.length+1:=by omega
   have g9:els.take i=rows.take i:=by
    conv=>rhs;rw[← het]
    rw[qFI,qFH (by omega)]
   rw[g6,g2,g5,g7,qEF (by simp:[row].length≤1),g8,g9,qog rows row _ i hi'];refine⟨by omega,by omega,⟨by omega,by omega,by omega,by omega⟩,⟨by omega,fun x hx y hy=>?_⟩,⟨by omega,by omega⟩,by omega,⟨by omega,?_,fun x hx y hy=>hall x (qGH hx) y hy⟩,
    [(40,⟨3,rows.take i++row::rows.drop i⟩)],by simp,_,.cons 40 _ (rows.length+1) .nil,40,.inr (.inr rfl),rfl,?_⟩
   ·have:x=row:=by simpa using hx
    subst this;exact qED.1 ho y hy
   ·rw[qbP _ _ _ (by simp;omega)];simp;omega
   ·have g10:(rows.take i++row::rows.drop i).take (rows.length+1)=rows.take i++row::rows.drop i:=qEF (by simp;omega);simp only[g10];rfl
theorem qtw (rows:List (List AV)) (i j:Nat) (hij:i<j) (hj:j≤rows.length) (hl:rows.length<2000000) (hr1:∀ r∈rows,r.length=3) (hro:rows.all (fun r=>r.all qda)=true) :
  ACall Go.Proofs.Tryz.prog 337 [.sl 1000 0 rows.length,.int .i64 i,.int .i64 j] [(1000,⟨3,rows⟩)] (fun r L'=>r=.sl 1000 0 (i+(rows.length-j))∧L'=[(1000,⟨3,rows.take i++rows.drop j⟩)]):=by
 refine ACall.weak (R:=fun r L'=>∃ L2,wkL L' L2∧unc r=.sl 1000 0 (i+(rows.length-j))∧L2=[(1000,⟨3,rows.take i++rows.drop j⟩)]) (ACall.cap (by simp) fun cap hcap=>?_) (fun r L' h=>h);obtain⟨els,hels⟩:∃ els,(qcK ⟨3,rows⟩ cap)=⟨3,els⟩:=⟨_,rfl⟩;have hel:els.length=cap:=by
  have:=congrArg (fun o:Ob=>o.els.length) hels;simp[qcK]at this;omega
 have het:els.take rows.length=rows:=by
  have:=congrArg (fun o:Ob=>o.els.take rows.length) hels;simp[qcK]at this;exact this.symm
 rw[hels];clear hels;have g5:(els.drop j).take (rows.length-j)=rows.drop j:=by
  conv=>rhs;rw[← het]
  rw[qFG]
 have hall:∀ x∈rows,∀ y∈x,qda y=true:=fun x hx y hy=>qED.1 (qED.1 hro x hx) y hy;have h1:¬ i=j:=by omega
 have h1':¬ (i:Int)=j:=by omega
 have h2:i+(rows.length-j)≤cap:=by omega
 refine acx func337 [(5,[zI 0,zI 1,zJ 2 [1000] [],zJ 3 [] [1000],zJ 4 [] [1000],zJ 5 [1000] [1000],zI 6,zI 7])] ntmps337 rfl rfl rfl ?_;simp[h1,h1',hel,g5,h2,hcap];have t1:((i:Int)+((rows.length-j:Nat):Int)).toNat=i+(rows.length-j):=by omega
 have h3:=qbP els i (rows.drop j) (by omega);rw[t1];refine⟨⟨by omega,by omega⟩,by omega,by omega,⟨by omega,by omega,fun x hx y hy=>hall x (qGH hx) y hy⟩,⟨by omega,by omega⟩,?_,[(1000,⟨3,spl (spl els i (rows.drop j)) (i+(rows.length-j)) (List.replicate (rows.length-(i+(rows.length-j))) _)⟩)],⟨rfl,trivial⟩,?_⟩
 ·rw[h3];simp;omega
 ·have:=wkL.cons 1000 ⟨3,spl (spl els i (rows.drop j)) (i+(rows.length-j)) (List.replicate (rows.length-(i+(rows.length-j))) [.int .i64 0,.int .i64 0,.int .i64 0])⟩ (i+(rows.length-j)) .nil;simp only[qov els rows _ i j het (by omega) hij hj]at this;exact this
end Go.Av.F
end
section
namespace Go.Av.F
open Go Go.Av Go.Proofs Go.Proofs.Tryz
def deQ (xs:List Nat) (R:List DE×Bool) (r:AV) (L':List (Nat×Ob)):Prop:=∃ id,id∈xs∧r=.tup [.sl id 0 R.1.length,.bool R.2]∧L'=[(id,qaR R.1)]
theorem qrS {f:Nat} {args:List AV} {xs:List Nat} {R:List DE×Bool} (h:ACall prog f args [] (deQ xs R)):ACall prog f args [] (fun r L'=>r=.tup [.sl 900 0 R.1.length,.bool R.2]∧L'=[(900,qaR R.1)]):=by
 refine h.can ?_;rintro r L' ⟨id,hid,rfl,rfl⟩;refine⟨[(id,900)],by simp,by simp,by simp,by simp,by simp,by simp[qag]⟩
theorem quR (l:List DE):((l.map DE.row).all fun r=>r.all qda)=true:=by simp[DE.row]
theorem qox:∀ {l:List DE} {q:Int},qgh q l=true→∀ e∈l,qca e=true
 | [],_,_,e,he=>by simp at he
 | x::r,q,h,e,he=>by
  simp only[qgh,Bool.and_eq_true]at h;rcases qFO.1 he with rfl | he
  ·exact h.1.1
  ·exact qox h.2 e he
theorem qm8 {l:List DE} (h:qak l=true):∀ e∈l,0≤e.es∧e.es<65521∧1≤e.ea∧e.ea<120∧1≤e.ec∧e.ec≤1000:=fun e he=>by
 simp only[qak,Bool.and_eq_true]at h;exact qgg (qox h.2 e he)
theorem qCQ (l:List DE) (h:qak l=true) (sum at':Int):ACall prog 292 [.lst 3 (l.map DE.row),.int .i64 sum,.int .i64 at'] [] (fun r L'=>r=.tup [.sl 900 0 (qbY l sum at').1.length,.bool (qbY l sum at').2]∧L'=[(900,qaR (qbY l sum at').1)]):=by
 obtain⟨R,hR⟩:∃ R,qbY l sum at'=R:=⟨_,rfl⟩;rw[hR];unfold qbY at hR;rw[if_neg (by simp[h])]at hR;have hl:l.length≤48:=by
  simp only[qak,Bool.and_eq_true,decide_eq_true_eq]at h;exact h.1
 have c1:=qxJ l (by omega);have c2:=qmO ⟨sum,at',1⟩;simp only[DE.row]at c2;refine qrS (xs:=[12,67]) ?_;refine acx func292 [] ntmps292 rfl rfl rfl ?_;simp;refine qad [] (by kernel_rfl) c1 (by simp[DE.row]) (by simp) trivial (by simp) (by simp) ?_;rintro r L' ⟨rfl,rfl⟩;refine⟨[(7,12)],⟨by simp,by simp,by simp,by simp,by simp⟩,?_⟩;simp only[qaf];simp;refine c2.call ?_;cases hen:qca ⟨sum,at',1⟩with
 | false =>
  rw[if_pos hen]at hR;subst hR;simp;exact⟨[(12,qaR l)],by simp,12,by simp,rfl,rfl⟩
 | true =>
  rw[if_neg (by simp[hen])]at hR;have ha:0≤at'∧at'≤1000:=by
   simp only[qca,Bool.and_eq_true,decide_eq_true_eq]at hen;omega
  have c3:=qgi l at' h ha;have hk:=ql7 l at';simp;refine c3.call ?_;cases hT:ddT l at' with
  | true =>
   rw[if_pos hT]at hR;obtain⟨e,e1,e3⟩:=qcI hT;have hkl:=(qEW.1 e1).1;have e0:=(qEW.1 e1).2;have eb:=qm8 h e (qGj e1);rw[e1]at hR;simp only at hR;generalize ddP l at'=k at *
   have e2:=qao (e.ec+1) (by omega) (by omega);simp[hkl,e0,e1,e2,DE.row,qaR];refine⟨fun q1=>⟨fun q2=>?_,fun q2=>?_⟩,fun q1=>?_⟩
   ·rw[if_pos (.inr q2)]at hR;subst hR;exact⟨[(12,qaR l)],by simp[qaR],12,by simp,rfl,rfl⟩
   ·rw[if_neg (by omega)]at hR;subst hR;exact⟨[(12,qaR (l.set k ⟨e.es,e.ea,e.ec+1⟩))],by simp[qaR,DE.row,qGv],12,by simp,by simp,rfl⟩
   ·rw[if_pos (.inl q1)]at hR;subst hR;exact⟨[(12,qaR l)],by simp[qaR],12,by simp,rfl,rfl⟩
  | false =>
   rw[if_neg (by simp[hT])]at hR;generalize ddP l at'=k at *
   by_cases hn:l.length=48
   ·rw[if_pos hn]at hR;subst hR;simp[hn];exact⟨[(12,qaR l)],by simp,12,by simp,by simp[hn],rfl⟩
   ·rw[if_neg hn]at hR;subst hR;have ci:=qs6 (l.map DE.row) (DE.row ⟨sum,at',1⟩) k (by simpa using hk) (by simp;omega) rfl (by simp[DE.row]) (by simp[DE.row]) (quR l) (by simp[DE.row]) (qbZ l);simp only[qFs,DE.row]at ci;simp[hn,show ¬ (l.length:Int)=48 by omega];refine qad [(1000,.whole 12),(1001,.whole 66)] (by kernel_rfl) ci (by simp) (by simp) (by simp[qaR];exact⟨qaa rfl (qbZ l),qaa rfl (by simp[clR])⟩) (by simp) (by simp) ?_;have hfin:∀ id,id∈[12,67]→deQ [12,67] (l.take k++(⟨sum,at',1⟩:DE)::l.drop k,true) (.tup [.sl id 0 (l.length+1),.bool true]) [(id,⟨3,qpC (l.map DE.row) [.int .i64 sum,.int .i64 at',.int .i64 1] k⟩)]:=fun id hid=>⟨id,hid,by simp;omega,by simp[qpC,qaR,DE.row,qGr,qGq]⟩;have hren:∀ ρ,(qpC (l.map DE.row) [.int .i64 sum,.int .i64 at',.int .i64 1] k).map (qb3 ρ)=qpC (l.map DE.row) [.int .i64 sum,.int .i64 at',.int .i64 1] k:=fun ρ=>qj7 ρ (by
     simp only[qpC,clR,qGd,qGf,Bool.and_eq_true];exact⟨qED.2 fun x hx=>qED.1 (qbZ l) x (qGe hx),by simp,qED.2 fun x hx=>qED.1 (qbZ l) x (qGH hx)⟩)
    rintro r L' ⟨id,hid,rfl,rfl⟩;simp only[qFs]at *
    rcases hid with rfl | rfl | rfl
    ·refine⟨[],⟨by simp,by simp,by simp,by simp,by simp⟩,?_⟩;simp only[qaf];simp[hren];exact⟨_,by simp,hfin 12 (by simp)⟩
    ·refine⟨[(25,67)],⟨by simp,by simp,by simp,by simp,by simp⟩,?_⟩;simp only[qaf];simp[hren];exact⟨_,by simp,hfin 67 (by simp)⟩
    ·refine⟨[(40,67)],⟨by simp,by simp,by simp,by simp,by simp⟩,?_⟩;simp only[qaf];simp[hren];exact⟨_,by simp,hfin 67 (by simp)⟩
theorem qAf (l:List DE) (h:qak l=true) (at':Int) (ha:0≤at'∧at'≤1000):ACall prog 293 [.lst 3 (l.map DE.row),.int .i64 at'] [] (fun r L'=>r=.tup [.sl 900 0 (qbk l at').1.length,.bool (qbk l at').2]∧L'=[(900,qaR (qbk l at').1)]):=by
 obtain⟨R,hR⟩:∃ R,qbk l at'=R:=⟨_,rfl⟩;rw[hR];unfold qbk at hR;rw[if_neg (by simp[h])]at hR;have hl:l.length≤48:=by
  simp only[qak,Bool.and_eq_true,decide_eq_true_eq]at h;exact h.1
 have c1:=qxJ l (by omega);have c3:=qgi l at' h ha;refine qrS (xs:=[10,38]) ?_;refine acx func293 [] ntmps293 rfl rfl rfl ?_;simp;refine qad [] (by kernel_rfl) c1 (by simp[DE.row]) (by simp) trivial (by simp) (by simp) ?_;rintro r L' ⟨rfl,rfl⟩;refine⟨[(7,10)],⟨by simp,by simp,by simp,by simp,by simp⟩,?_⟩;simp only[qaf];simp;refine c3.call ?_;cases hT:ddT l at' with
 | false =>
  rw[if_pos hT]at hR;subst hR;simp;exact⟨[(10,qaR l)],by simp,10,by simp,rfl,rfl⟩
 | true =>
  rw[if_neg (by simp[hT])]at hR;obtain⟨e,e1,e3⟩:=qcI hT;have hkl:=(qEW.1 e1).1;have e0:=(qEW.1 e1).2;have eb:=qm8 h e (qGj e1);rw[e1]at hR;simp only at hR;generalize ddP l at'=k at *
  have e2:=qao (e.ec-1) (by omega) (by omega);have e4:=qao ((k:Int)+1) (by omega) (by omega);by_cases q:e.ec=1
  ·rw[if_pos q]at hR;subst hR;obtain⟨l2,hl2⟩:∃ l2,l.set k ⟨e.es,e.ea,0⟩=l2:=⟨_,rfl⟩;have hl2l:l2.length=l.length:=by rw[← hl2];simp
   have hrow:(l.map DE.row).set k [.int .i64 e.es,.int .i64 e.ea,.int .i64 0]=l2.map DE.row:=by rw[← hl2];simp[DE.row,qGv]
   have ci:=qtw (l2.map DE.row) k (k+1) (by omega) (by simp[hl2l];omega) (by simp;omega) (by simp[DE.row]) (quR l2);simp only[qFs,hl2l]at ci;have hkl2:k<l2.length:=by omega
   have hl2k:l2[k]?=some ⟨e.es,e.ea,0⟩:=by rw[← hl2];simp[hkl]
   have htk:(l2.map DE.row).take k++(l2.map DE.row).drop (k+1)=(l.take k++l.drop (k+1)).map DE.row:=by
    rw[← hl2,qGu,qsq,← qGq,qHf (by omega),qHh (by omega)]
   simp[hkl,e0,e1,e2,e4,DE.row,qaR,q,hrow,hl2k,hl2l,hkl2,(qEW.1 hl2k).2];refine qad [(1000,.whole 10)] (by kernel_rfl) ci (by simp) (by simp) (by simp;exact qaa rfl (qbZ l2)) (by simp) (by simp) ?_;rintro r L' ⟨rfl,rfl⟩;refine⟨[],⟨by simp,by simp,by simp,by simp,by simp⟩,?_⟩;simp only[qaf];have hren:∀ ρ,((l.take k++l.drop (k+1)).map DE.row).map (qb3 ρ)=(l.take k++l.drop (k+1)).map DE.row:=fun ρ=>by simp
   rw[htk];simp[hren];exact⟨[(10,qaR (l.take k++l.drop (k+1)))],by simp[qaR],10,by simp,by simp;omega,rfl⟩
  ·rw[if_neg q]at hR;subst hR;simp[hkl,e0,e1,e2,DE.row,qaR,q,show ¬ e.ec-1=0 by omega];exact⟨[(10,qaR (l.set k ⟨e.es,e.ea,e.ec-1⟩))],by simp[qaR,DE.row,qGv],10,by simp,by simp,rfl⟩
theorem qAd (d:DK) (hd:DkT d) (l:List DE) (text:List UInt8) (hl:l.length≤1048576) (ht:text.length≤maxLen) :
  CV prog 218 [.agg d.row,.lst 3 (l.map DE.row),.str text] (.int .i64 (qdL d l text)):=by
 obtain⟨R,hR⟩:∃ R,qdL d l text=R:=⟨_,rfl⟩;rw[hR];unfold qdL at hR;have c1:=qkq l hl;have c2:CV prog 201 [.str text] (.int .i64 (smB text:Nat)):=qs3 text ht;refine cvx func218 [] ntmps218 rfl rfl rfl ?_ (hca:=by simp[DK.row,DE.row]);simp[DK.row];refine c1.call ?_;cases hok:qak l with
 | false =>
  rw[if_neg (by simp[hok])]at hR;subst hR;simp
 | true =>
  rw[if_pos hok]at hR;simp;refine c2.call ?_;simp;refine qaS (X:=Nat) [2,3,6,7,17,18,19] [(3,3)] (fun i=>[(19,.int .i64 i)]) (fun _=>[]) (fun i=>l.length-i) (fun i=>i≤l.length∧qgT d text (l.drop i)=R) 0 (by simp[hR]) ?_ (he:=by simp[qag]);rintro i ⟨hi,hf⟩;cases hr:l.drop i with
  | nil =>
   have:=qaY hr;rw[hr]at hf;have hie:i=l.length:=by omega
   subst hie;simp[qag];simpa [qgT]using hf
  | cons e r =>
   obtain⟨k1,e0,e1,k3⟩:=qaZ hr;rw[hr]at hf;have e2:=qao ((i:Int)+1) (by omega) (by omega);have c3:=qf6 d hd ⟨e.ea,e.es,0⟩;simp only[qgT]at hf;have eli:(i:Int)<l.length:=by omega
   have hN:¬ (e.es=smB text∧(qaj d ⟨e.ea,smB text,0⟩).2=0∧(qaj d ⟨e.ea,smB text,0⟩).1=text)→qgT d text (l.drop (i+1))=R:=fun h=>by rw[if_neg h]at hf;rw[k3];exact hf
   have hY:(e.es=smB text∧(qaj d ⟨e.ea,smB text,0⟩).2=0∧(qaj d ⟨e.ea,smB text,0⟩).1=text)→e.ea=R:=fun h=>by rw[if_pos h]at hf;exact hf
   simp[qag,eli,e0,e1,k1,DE.row];refine⟨fun q1=>nx (i+1) [(3,3)] ⟨by omega,hN fun h=>q1 h.1⟩ (h4:=by simp[qag,e2]),fun q1=>?_⟩;rw[q1]at c3;generalize qaj d ⟨e.ea,smB text,0⟩=Y at *
   obtain⟨yt,yc⟩:=Y;simp only[DK.row,PT.row]at c3;rw[q1];refine c3.call ?_;simp;refine⟨fun q2=>⟨fun q3=>hY ⟨q1,q2,q3⟩,fun q3=>nx (i+1) [(3,3)] ⟨by omega,hN fun h=>q3 h.2.2⟩ (h4:=by simp[qag,e2])⟩,fun q2=>nx (i+1) [(3,3)] ⟨by omega,hN fun h=>q2 h.2.1⟩ (h4:=by simp[qag,e2])⟩
theorem qCK (x:Int):CV prog 339 [.int .i64 x] (.bool false):=by
 refine cvx func339 [] ntmps339 rfl rfl rfl ?_;simp
theorem qCJ (x:Int):CV prog 304 [.int .i64 x] (.bool false):=by
 refine cvx func304 [] ntmps304 rfl rfl rfl ?_;simp
theorem qAc (x y:Int):CV prog 303 [.int .i64 x,.int .i64 y] (.bool (decide (x<y))):=by
 refine cvx func303 [] ntmps303 rfl rfl rfl ?_;simp;refine(qCK x).call ?_;simp
theorem qju:∀ {l:List Int} {q:Int},qbq q l=true→(∀ x∈l,q<x∧13≤x∧x<120)∧∀ (i j:Nat) (x y:Int),i<j→l[i]?=some x→l[j]?=some y→x<y
 | [],q,_=>⟨by simp,fun i j x y _ h=>by simp at h⟩
 | a::r,q,h=>by
  simp only[qbq,Bool.and_eq_true,decide_eq_true_eq]at h;obtain⟨h1,h2⟩:=qju h.2;refine⟨fun x hx=>?_,fun i j x y hij hx hy=>?_⟩
  ·rcases qFO.1 hx with rfl | hx
   ·omega
   ·have:=h1 x hx;omega
  ·cases j with
   | zero=>omega
   | succ j =>
    simp only[qEJ]at hy;cases i with
    | zero =>
     simp only[qEs,qEd]at hx;subst hx;exact(h1 y (qGj hy)).1
    | succ i=>exact h2 i j x y (by omega) (by simpa using hx) hy
theorem qAL {l:List Int} {a:Int} (hu:UpC (fun x=>x-a) l) (hs:∀ (i j:Nat) (x y:Int),i<j→l[i]?=some x→l[j]?=some y→x<y):bsT (fun x=>x-a) l=l.contains a:=by
 unfold bsT;cases h:l[bsK (fun x=>x-a) l]? with
 | some x =>
  simp only;by_cases hx:x=a
  ·subst hx;have:=qGj h;simp[this]
  ·have hn:¬ a∈l:=fun hm=>by
    obtain⟨i,hi⟩:=qHk.1 hm;have h1:=qjL (c:=fun x=>x-a) hi (by simp);rcases qFc (bsK (fun x=>x-a) l) i with h2 | h2
    ·have h3:=hs _ _ _ _ h2 h hi;have:=qmg hu h (by first | omega | (simp only;omega))
     omega
    ·have:i=bsK (fun x=>x-a) l:=by omega
     rw[← this,hi]at h;injection h with h;exact hx h.symm
   have h2:¬ x-a=0:=by omega
   simp[hn,h2]
 | none =>
  have hn:¬ a∈l:=fun hm=>by
   obtain⟨i,hi⟩:=qHk.1 hm;have h1:=qjL (c:=fun x=>x-a) hi (by simp);have h2:=(qEW.1 hi).1;have h3:=qHl.1 h;omega
  simp[hn]
theorem qDS (l:List Int) (a:Int) (hl:l.length≤1048576) (hs:∀ (i j:Nat) (x y:Int),i<j→l[i]?=some x→l[j]?=some y→x<y) :
  CV prog 240 [.lst 1 (l.map qac),.int .i64 a] (.tup [.int .i64 (bsK (fun x=>x-a) l:Nat),.bool (l.contains a)]):=by
 have hu:UpC (fun x=>x-a) l:=fun i j x y hij hx hy hc=>by
  have:=hs i j x y hij hx hy
  first | omega | (simp only at hc ⊢;omega)
 rw[← qAL hu hs];obtain⟨K,hK⟩:∃ K,bsK (fun x=>x-a) l=K:=⟨_,rfl⟩;have hKl:=qng (fun x=>x-a) l;refine cvx func240 [] ntmps240 rfl rfl rfl ?_ (hca:=by simp[qac]);simp;refine qaS (X:=Nat×Nat) [0,1,6,7,8] [] (fun x=>[(7,.int .i64 x.1),(8,.int .i64 x.2)]) (fun _=>[]) (fun x=>x.2-x.1) (fun x=>x.1≤K∧K≤x.2∧x.2≤l.length) (0,l.length) (by simp;omega) ?_;rintro⟨i,j⟩ ⟨hi,hj,hjl⟩;simp only at hi hj hjl;by_cases h1:i<j
 ·obtain⟨m,hm⟩:∃ m,(i+j) / 2=m:=⟨_,rfl⟩;have e1:=qao ((i:Int)+j) (by omega) (by omega);have e6:IntKind.i64.wrap ((IntKind.u64.wrap ((i:Int)+j)).fdiv (2 ^ min 1 IntKind.u64.bits))=(m:Int):=by
   rw[show IntKind.u64.wrap ((i:Int)+j)=(i:Int)+j from IntWalk.u64_in _ (by omega)];rw[show(2:Int) ^ min 1 IntKind.u64.bits=2 from rfl,qGy _ (by omega)];rw[qaK _ (by omega)];omega
  have e7:=qao ((m:Int)+1) (by omega) (by omega);have hml:m<l.length:=by omega
  obtain⟨x,e0⟩:∃ x,l[m]=x:=⟨_,rfl⟩;have e5:l[m]?=some x:=by rw[← e0];exact qEq hml
  simp[h1,e1,e6,hml,e0,e5,qac];refine(qAc x a).call ?_;simp[e7];refine⟨fun hc=>nx (m+1,j) [] ?_,fun hc=>nx (i,m) [] ?_⟩
  ·have:=qmg hu e5 (by first | omega | (simp only;omega))
   simp only;omega
  ·have:=qjL (c:=fun x=>x-a) e5 (by omega);simp only;omega
 ·have hji:i=j:=by omega
  subst hji;by_cases h2:i<l.length
  ·obtain⟨x,e0⟩:∃ x,l[i]=x:=⟨_,rfl⟩;have e5:l[i]?=some x:=by rw[← e0];exact qEq h2
   have hik:i=K:=by omega
   by_cases hx:x=a
   ·subst hx;simp[h2,e0,e5,qac];simp[hK,bsT,← hik,e5]
   ·simp[h2,e0,e5,hx,qac];refine(qCJ x).call ?_;simp[hK,bsT,← hik,e5];have:¬ x-a=0:=by omega
    simp[this]
  ·have hil:i=l.length:=by omega
   have hik:i=K:=by omega
   simp[hK,bsT,← hik,hil]
theorem qr1 {c:CO} (h:qap c=true):qak c.ddt=true∧qbq 12 c.safe=true:=by
 simp only[qap,Bool.and_eq_true,decide_eq_true_eq]at h;exact⟨h.1.1.1.1.1.1.1.1.1.2,h.1.1.1.1.1.1.1.2⟩
theorem qtc (c:CO) (h:CoT c) (hc:qap c=true) (a:Int) (ha:0≤a∧a≤1000):CV prog 152 [.agg c.row,.int .i64 a] (.bool (qfo c a)):=by
 obtain⟨h1,h2⟩:=qr1 hc;have c1:=qgi c.ddt a h1 ha;have c2:=qDS c.safe a h.safe (qju h2).2;unfold qfo;refine cvx func152 [] ntmps152 rfl rfl rfl ?_ (hca:=by simp[qeB]);simp[CO.row];refine c1.call ?_;simp;refine c2.call ?_;cases ddT c.ddt a with
 | true=>simp
 | false=>simp
theorem qrt (c:CO) (h:CoT c) (hc:qap c=true) (n:Int) (hn:n≤1000):ACall prog 68 [.agg c.row,.int .i64 n] [] (fun r L'=>r=.sl 900 0 (qaT c n).length∧L'=[(900,kin (qaT c n))]):=by
 obtain⟨R,hR⟩:∃ R,qaT c n=R:=⟨_,rfl⟩;rw[hR];refine acx func68 [] ntmps68 rfl rfl rfl ?_;simp[CO.row];refine qeW (qjT 5 1 (by simp) (by simp)) ?_;refine qbj (X:=Int×List Int) [1,2,5,6] [(2,2),(5,900)] (fun x=>[(5,.sl 900 0 x.2.length),(6,.int .i64 x.1)]) (fun x=>[(2,⟨7,[c.row]⟩),(900,kin x.2)]) (fun x=>(n-x.1).toNat) (fun x=>13≤x.1∧x.1≤1048577∧x.2.length≤x.1∧x.2++qf9 c (n-x.1).toNat x.1=R) (13,[]) (by simp[← hR,qaT]) ?_ (he:=by simp[qag,kin,CO.row]);rintro⟨a,out⟩ ⟨ha,ha2,hl,hd⟩;simp only at ha ha2 hl hd;by_cases hlt:a<n
 ·obtain⟨k,hk⟩:∃ k,(n-a).toNat=k+1:=⟨(n-a).toNat-1,by omega⟩;have hk2:(n-(a+1)).toNat=k:=by omega
  rw[hk]at hd;simp only[qf9]at hd;have c1:=qtc c h hc a (by omega);simp only[CO.row]at c1;have e2:=qao (a+1) (by omega) (by omega);simp[qag,hlt,CO.row];refine c1.call ?_;cases ht:qfo c a with
  | false =>
   rw[if_neg (by simp[ht]),qE0]at hd;simp[e2];exact nx (a+1,out) [(2,2),(900,900)] ⟨by simp only;omega,by simp only;omega,by simp only;omega,by simp only[hk2];exact hd⟩ (by simp only;omega) (h4:=by simp[qag,e2,CO.row,kin])
  | true =>
   rw[if_pos ht]at hd;simp[e2,kin];refine⟨by omega,nx (a+1,out++[a]) [(2,2),(18,900)] ⟨by simp only;omega,by simp only;omega,by simp;omega,by simp only[hk2];simpa using hd⟩ (by simp only;omega) (h4:=by simp[qag,e2,CO.row,kin,qac,qal])⟩
 ·have hk:(n-a).toNat=0:=by omega
  rw[hk]at hd;simp only[qf9,qGw]at hd;simp[hlt,← hd]
theorem qCL (c:CO) (h:CoT c) (hc:qap c=true) (n:Nat) (hn:n≤120):CV prog 219 [.agg c.row,.int .i64 n] (.bool (qo2 c n)):=by
 obtain⟨R,hR⟩:∃ R,qo2 c n=R:=⟨_,rfl⟩;rw[hR];unfold qo2 at hR;have c1:=qiA c h;have h2:=h.ddt;rw[hc]at c1;have cr:CV prog 287 [.agg c.row,.int .i64 n] (.bool true):=by
  simp only[CO.row]at c1;refine cvx func287 [] ntmps287 rfl rfl rfl ?_ (hca:=by simp[qeB]);simp[CO.row];refine c1.call ?_;simp
  try omega
 have c3:=qrt c h hc n (by omega);generalize qaT c n=f at *
 have e1:=qao ((n:Int)-13) (by omega) (by omega);have e2:=qao ((c.ddt.length:Int)+1) (by omega) (by omega);have e3:=qao ((n:Int)-13-((c.ddt.length:Int)+1)) (by omega) (by omega);refine cvx func219 [] ntmps219 rfl rfl rfl ?_ (hca:=by simp[qeB]);simp only[CO.row]at cr c3;simp[CO.row];refine cr.call ?_;simp[CO.row];refine qad [] (by kernel_rfl) c3 (by simp[qbO,DE.row,PT.row,qac]) (by simp) trivial (by simp) (by simp) ?_;rintro r L' ⟨rfl,rfl⟩;refine⟨[(900,11)],⟨by simp,by simp,by simp,by simp,by simp⟩,?_⟩;simp only[qaf];by_cases g1:16<f.length
 ·by_cases g2:(32:Int)≤n-13-c.ddt.length-1
  ·simp[CO.row,g1,show(16:Int)<f.length by omega,e1,e2,e3,show(32:Int)≤n-13-(c.ddt.length+1) by omega];rw[← hR];simp only[g1,g2,decide_true,qGE];by_cases g3:c.ddt.length<48
   ·simp[g3];omega
   ·simp[g3];omega
  ·simp[CO.row,g1,show(16:Int)<f.length by omega,e1,e2,e3,show ¬ (32:Int)≤n-13-(c.ddt.length+1) by omega];rw[← hR];simp[g2]
 ·simp[g1,show ¬ (16:Int)<f.length by omega];rw[← hR];simp[g1]
theorem qlw:∀ (k:Nat) (l:List DE),l.length≤k→(qc9 k l).length=(l.length+5) / 6:=fun k=>by
 induction k with
 | zero =>
  intro l hl;have:l=[]:=qGa (by omega);subst this;rfl
 | succ k ih =>
  intro l hl;simp only[qc9];by_cases h0:l=[]
  ·subst h0;rfl
  ·rw[if_neg h0,qEI,ih (l.drop 6) (by simp;have:=qEm.2 h0;omega)];have:=qEm.2 h0;simp only[qEh];omega
theorem qwW (c:CO) (h:CoT c) (hc:qap c=true):CV prog 69 [.agg c.row] (.int .i64 (qcE c:Nat)):=by
 obtain⟨hm,k1,k2,k3,k4,k5,k6,k7⟩:=qb1 hc;obtain⟨R,hR⟩:∃ R,qcE c=R:=⟨_,rfl⟩;rw[hR];have hp:=qlw c.ddt.length c.ddt (qD9 _);unfold qcE qbX at hR;rw[hp]at hR;have c1:=qiA c h;rw[hc]at c1;have hdl:qb6 c.sets≤c.sets.length:=qGJ;refine cvx func69 [] ntmps69 rfl rfl rfl ?_ (hca:=by simp[qeB]);simp only[CO.row]at c1;simp[CO.row];refine c1.call ?_;simp;refine qaS (X:=Nat×Nat) [1,2,3,10,11,12] [(1,1)] (fun x=>[(3,.int .i64 (x.2:Int)),(12,.int .i64 x.1)]) (fun _=>[]) (fun x=>c.sets.length-x.1) (fun x=>x.1≤c.sets.length∧x.2≤1+x.1∧x.2+qb6 (c.sets.drop x.1)+(if c.dirty=true then (c.ddt.length+5) / 6 else 0)=R) (0,1) ⟨by simp,by simp,by simpa using hR⟩ ?_ (he:=by simp[qag])
 rintro⟨i,m⟩ ⟨hi,hml,hd⟩;simp only at hi hml hd;cases hr:c.sets.drop i with
 | nil =>
  have:=qaY hr;rw[hr]at hd;have hie:i=c.sets.length:=by omega
  subst hie;simp only[qb6,qHd,qFm]at hd;have e1:=qao ((c.ddt.length:Int)+6) (by omega) (by omega);have e2:=qao ((c.ddt.length:Int)+6-1) (by omega) (by omega);have e4:IntKind.i64.wrap (((c.ddt.length:Int)+6-1).tdiv 6)=(((c.ddt.length+5) / 6:Nat):Int):=by
   rw[qGW (by omega),qao _ (by omega) (by omega)];omega
  have e5:=qao ((m:Int)+(((c.ddt.length+5) / 6:Nat):Int)) (by omega) (by omega);simp[qag,e1,e2];refine⟨fun q=>?_,fun q=>?_⟩
  ·rw[if_pos q]at hd;rw[e4,e5,← hd];omega
  ·rw[if_neg (by simp[q])]at hd;rw[← hd];rfl
 | cons x q =>
  obtain⟨g1,e0,e1,g3⟩:=qaZ hr;rw[hr]at hd;have h8:=h.m8 x (qGj e1);have hli:(i:Int)<c.sets.length:=by omega
  have e2:=qao ((i:Int)+1) (by omega) (by omega);have e3:=qao ((m:Int)+1) (by omega) (by omega);have hx30:=qoB x h8;have hx30':=(qEW.1 hx30).2;simp only[qb6,qGI]at hd;simp[qag,g1,e0,e1,hli,qaV x h8,qer x h8,hx30,hx30',e2,e3];refine⟨qg2 x,fun q1=>?_,fun q1=>?_⟩
  ·rw[if_pos q1]at hd;exact nx (i+1,m+1) [(1,1)] ⟨by simp only;omega,by simp only;omega,by simp only[g3,qb6];rw[← hd];congr 1;omega⟩ (by simp only;omega) (h4:=by simp[qag,e2,e3])
  ·rw[if_neg (by simp[q1])]at hd;exact nx (i+1,m) [(1,1)] ⟨by simp only;omega,by simp only;omega,by simp only[g3,qb6];rw[← hd];rfl⟩ (by simp only;omega) (h4:=by simp[qag,e2,e3])
end Go.Av.F
end
