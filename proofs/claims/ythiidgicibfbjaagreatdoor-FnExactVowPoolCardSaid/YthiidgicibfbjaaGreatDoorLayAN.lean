/- Lemmas for the proof, no statement of the seat; no conditions. -/
import Derived.Test.YthiidgicibfbjaaGreatDoorLayAM
import Derived.Test.YthiidgicibfbjaaGreatDoorProg
set_option linter.unusedSimpArgs false
set_option linter.unusedVariables false
set_option linter.unnecessarySimpa false
set_option maxRecDepth 100000
set_option maxHeartbeats 400000
section
namespace Go.Av.F
open Go Go.Av
inductive Rt (bs:List BS):BS→Prop
 | root (s:BS):s.frm=[]→s.kind=1→Rt bs s
 | step (s t:BS):s.frm≠[]→t∈bs→t.name=s.frm→t.kind≠s.kind→Rt bs t→Rt bs s
def Pw (bs:List BS):Prop:=bs.Pairwise fun a b=>Op.bytesLess a.name b.name=true
def qFD (s:BS):Prop:=qbR s.name=true∧1≤s.kind∧s.kind≤2∧∀ t∈s.bl,t.length≤24
def Ok (bs:List BS):Prop:=bs.length≤6∧Pw bs∧∀ s∈bs,qFD s∧Rt bs s
theorem qAx {bs:List BS} (h:Pw bs):Srt bs:=fun i j a b hij ha hb=>by
 obtain⟨h1,rfl⟩:=qGy.1 ha;obtain⟨h2,rfl⟩:=qGy.1 hb;exact(qIm.1 h) i j h1 h2 hij
theorem qzT {bs:List BS} (h:Srt bs):Pw bs:=qIm.2 fun i j h1 h2 hij=>h i j _ _ hij (qF3 h1) (qF3 h2)
theorem qB7 {bs:List BS} (hS:Srt bs) {t:BS} (h:t∈bs):bs[atP bs t.name]?=some t∧atB bs t.name=true:=by
 obtain⟨i,hi,rfl⟩:=qHY.1 h;have:=qvZ hS (qF3 hi);exact⟨by rw[this.1];exact qF3 hi,this.2⟩
theorem qtA {bs:List BS} (hS:Srt bs) {s:BS} (h:Rt bs s):∃ n,qbg bs n s=true:=by
 induction h with
 | root s h1 h2=>exact⟨1,by simp[qbg,h1,h2]⟩
 | step s t h1 h2 h3 h4 _ ih =>
  obtain⟨n,hn⟩:=ih;obtain⟨e1,e2⟩:=qB7 hS h2;rw[h3]at e1 e2;exact⟨n+1,by simp[qbg,h1,e1,e2,h4,hn]⟩
theorem qoe {bs:List BS}:∀ (n:Nat) (s:BS),qbg bs n s=true→Rt bs s
 | 0,s,h=>by simp[qbg]at h
 | n+1,s,h=>by
  simp only[qbg]at h;split at h
  ·rename_i h1;exact .root s h1 (by simpa using h)
  ·rename_i h1;split at h
   ·rename_i t ht;split at h
    ·rename_i h2;obtain⟨u,hu,hun⟩:=qda h2.1;rw[ht]at hu;injection hu with hu;subst hu;exact .step s t h1 (qHT ht) hun h2.2 (qoe n t h)
    ·cases h
   ·cases h
theorem qlQ (bs:List BS):∀ (k:Nat) (s:BS),s∈bs→qbg bs (bs.length+k) s=qbg bs bs.length s
 | 0,s,hs=>rfl
 | k+1,s,hs=>by
  have h:∀ (k:Nat),∀ s∈bs,qbg bs (bs.length+k) s=qbg bs (bs.length+k+1) s:=fun k=>by
   induction k with
   | zero=>exact qiD bs
   | succ k ih=>exact fun s _=>qjG ih s
  have:=h k s hs;rw[show bs.length+(k+1)=bs.length+k+1 by omega,← this];exact qlQ bs k s hs
theorem qrj {bs:List BS} {s:BS} (hs:s∈bs) {n:Nat} (h:qbg bs n s=true):qbg bs (bs.length+1) s=true:=by
 have:∀ k,qbg bs (n+k) s=true:=fun k=>by
  induction k with
  | zero=>exact h
  | succ k ih=>exact qec _ _ ih
 have h1:=this bs.length;rw[qHo,qlQ bs n s hs]at h1;exact qec _ _ h1
theorem okB_iff {bs:List BS}:qa3 bs=true↔Ok bs:=by
 constructor
 ·intro h;simp only[qa3,Bool.and_eq_true,decide_eq_true_eq,qGf]at h;refine⟨h.1.1,qzT (qiM h.1.2),fun s hs=>⟨?_,qoe _ _ (h.2 s hs)⟩⟩;obtain⟨i,hi,e⟩:=qHY.1 hs;have:=qoy h.1.2 (i:=i) (s:=s) (by rw[← e];exact qF3 hi);simp only[qgE,Bool.and_eq_true,decide_eq_true_eq,qGf]at this;exact⟨this.1.1.1.1,this.1.1.2,this.1.2,this.2⟩
 ·rintro⟨h1,h2,h3⟩;have hS:=qAx h2;simp only[qa3,Bool.and_eq_true,decide_eq_true_eq,qGf];refine⟨⟨h1,?_⟩,fun s hs=>?_⟩
  ·unfold qgV;rw[qGf];intro i hi;have hil:i<bs.length:=by simpa using hi
   rw[qF3 hil];obtain⟨g1,g2,g3,g4⟩:=(h3 _ (qGz hil)).1;simp only[qgE,Bool.and_eq_true,decide_eq_true_eq,qGf];refine⟨⟨⟨⟨g1,?_⟩,g2⟩,g3⟩,g4⟩;unfold qdC;cases i with
   | zero=>simp
   | succ i =>
    have:i<bs.length:=by omega
    simp only[Nat.add_sub_cancel,qF3 this];simp[hS i (i+1) _ _ (by omega) (qF3 this) (qF3 hil)]
  ·obtain⟨n,hn⟩:=qtA hS (h3 s hs).2;exact qrj hs hn
theorem Rt.map {bs bs':List BS} (hb:∀ u∈bs,∃ u'∈bs',u'.name=u.name∧u'.kind=u.kind∧u'.frm=u.frm) {s:BS} (h:Rt bs s):∀ s':BS,s'.frm=s.frm→s'.kind=s.kind→Rt bs' s':=by
 induction h with
 | root s h1 h2=>exact fun s' e1 e2=>.root s' (e1.trans h1) (e2.trans h2)
 | step s t h1 h2 h3 h4 _ ih =>
  intro s' e1 e2;obtain⟨u,hu,g1,g2,g3⟩:=hb t h2;exact .step s' u (by rw[e1];exact h1) hu (by rw[e1,g1];exact h3) (by rw[e2,g2];exact h4) (ih u g3 g2)
end Go.Av.F
end
section
namespace Go.Av.F
open Go Go.Av
open Go.Proofs Go.Proofs.Tryz
attribute [-simp] qdQ hdS qao qae qap
structure PT where
 pa:Int
 ps:Int
 pb:Int
deriving DecidableEq,Inhabited
def PT.row (p:PT):List AV:=[.int .i64 p.pa,.int .i64 p.ps,.int .i64 p.pb]
structure CS where
 name:List UInt8
 kind:Int
 frm:List UInt8
 map:List PT
 home:PT
 dirty:Bool
deriving DecidableEq,Inhabited
def CS.row (s:CS):List AV:=.str s.name::.int .i64 s.kind::.str s.frm::(s.map.flatMap PT.row++(s.home.row++[.bool s.dirty]))
structure DE where
 es:Int
 ea:Int
 ec:Int
deriving DecidableEq,Inhabited
def DE.row (e:DE):List AV:=[.int .i64 e.es,.int .i64 e.ea,.int .i64 e.ec]
def qad (n:Int):List AV:=[.int .i64 n]
structure CO where
 txg:Int
 sets:List CS
 ddt:List DE
 parts:List PT
 dirty:Bool
 safe:List Int
 logn:Int
deriving DecidableEq,Inhabited
def CO.row (c:CO):List AV:=[.int .i64 c.txg,.lst 31 (c.sets.map CS.row),.lst 3 (c.ddt.map DE.row),.lst 3 (c.parts.map PT.row),.bool c.dirty,.lst 1 (c.safe.map qad),.int .i64 c.logn]
def qiY (z:Int):Prop:=-9223372036854775808≤z∧z≤9223372036854775807
theorem qzj {z:Int} (h:(Lit.int .i64 z).wf=true):qiY z:=by
 simpa [Lit.wf,IntKind.min,IntKind.max,IntKind.signed,IntKind.bits,qiY]using h
def PtG (p:PT):Prop:=qiY p.pa∧qiY p.ps∧qiY p.pb
def CsG (s:CS):Prop:=qiY s.kind∧s.map.length=8∧(∀ p∈s.map,PtG p)∧PtG s.home∧s.name.length≤maxLen∧s.frm.length≤maxLen
def DeG (e:DE):Prop:=qiY e.es∧qiY e.ea∧qiY e.ec
def CoG (c:CO):Prop:=qiY c.txg∧(∀ s∈c.sets,CsG s)∧(∀ e∈c.ddt,DeG e)∧(∀ p∈c.parts,PtG p)∧(∀ z∈c.safe,qiY z)∧qiY c.logn∧c.sets.length≤maxLen∧c.ddt.length≤maxLen∧c.parts.length≤maxLen∧c.safe.length≤maxLen
theorem qfR {α:Type} (f:α→List AV) (G:α→Prop):∀ els:List (List AV),(∀ r∈els,∃ a,G a∧r=f a)→∃ l:List α,els=l.map f∧∀ a∈l,G a
 | [],_=>⟨[],rfl,by simp⟩
 | r::els,h=>by
  obtain⟨a,ha,rfl⟩:=h r (by simp);obtain⟨l,rfl,hl⟩:=qfR f G els fun x hx=>h x (qHl _ hx);refine⟨a::l,rfl,fun x hx=>?_⟩;rcases qHq.1 hx with rfl | hx
  ·exact ha
  ·exact hl x hx
theorem qsR {α:Type} (f:α→List AV) (G:α→Prop) (S:List AV→Prop) (h:∀ r,S r→∃ a,G a∧r=f a):∀ (k:Nat) (avs:List AV),qnU S k avs→∃ l:List α,l.length=k∧avs=l.flatMap f∧∀ a∈l,G a
 | 0,avs,hs=>⟨[],rfl,hs,by simp⟩
 | k+1,avs,hs=>by
  obtain⟨a,b,rfl,ha,hb⟩:=hs;obtain⟨x,hx,rfl⟩:=h a ha;obtain⟨l,hl,rfl,hg⟩:=qsR f G S h k b hb;refine⟨x::l,by simp[hl],by simp,fun y hy=>?_⟩;rcases qHq.1 hy with rfl | hy
  ·exact hx
  ·exact hg y hy
open Go.Proofs
theorem qdh {n:Nat} {avs:List AV} (h:Shp Tryz.prog (n+1) 3 avs):∃ z,qiY z∧avs=[.int .i64 z]:=by
 obtain⟨z,h1,h2⟩:=qwR Tryz.underlying3 h;exact⟨z,qzj h1,h2⟩
theorem qry {n:Nat} {avs:List AV} (h:Shp Tryz.prog (n+2) 242 avs):∃ p:PT,PtG p∧avs=p.row:=by
 obtain⟨a1,b1,rfl,h1,a2,b2,rfl,h2,a3,b3,rfl,h3,rfl⟩:=qcX Tryz.underlying242 h;obtain⟨z1,g1,rfl⟩:=qdh h1;obtain⟨z2,g2,rfl⟩:=qdh h2;obtain⟨z3,g3,rfl⟩:=qdh h3;exact⟨⟨z1,z2,z3⟩,⟨g1,g2,g3⟩,rfl⟩
theorem qBL {n:Nat} {avs:List AV} (h:Shp Tryz.prog (n+2) 250 avs):∃ p:DE,DeG p∧avs=p.row:=by
 obtain⟨a1,b1,rfl,h1,a2,b2,rfl,h2,a3,b3,rfl,h3,rfl⟩:=qcX Tryz.underlying250 h;obtain⟨z1,g1,rfl⟩:=qdh h1;obtain⟨z2,g2,rfl⟩:=qdh h2;obtain⟨z3,g3,rfl⟩:=qdh h3;exact⟨⟨z1,z2,z3⟩,⟨g1,g2,g3⟩,rfl⟩
theorem qBP {n:Nat} {avs:List AV} (h:Shp Tryz.prog (n+4) 245 avs):∃ s:CS,CsG s∧avs=s.row:=by
 obtain⟨a1,b1,rfl,h1,a2,b2,rfl,h2,a3,b3,rfl,h3,a4,b4,rfl,h4,a5,b5,rfl,h5,a6,b6,rfl,h6,rfl⟩:=qcX Tryz.underlying245 h;obtain⟨s1,m1,rfl⟩:=qfg Tryz.underlying9 h1;obtain⟨z2,g2,rfl⟩:=qdh h2;obtain⟨s3,m3,rfl⟩:=qfg Tryz.underlying9 h3;obtain⟨l,hl,rfl,hg⟩:=qsR PT.row PtG _ (fun r hr=>qry hr) 8 a4 (qlG Tryz.underlying243 h4);obtain⟨hm,gm,rfl⟩:=qry h5;obtain⟨d,rfl⟩:=qkj Tryz.underlying4 h6;exact⟨⟨s1,z2,s3,l,hm,d⟩,⟨g2,hl,hg,gm,m1,m3⟩,by simp[CS.row]⟩
theorem quw {n:Nat} {avs:List AV} (h:Shp Tryz.prog (n+6) 57 avs):∃ c:CO,CoG c∧avs=c.row:=by
 obtain⟨a1,b1,rfl,h1,a2,b2,rfl,h2,a3,b3,rfl,h3,a4,b4,rfl,h4,a5,b5,rfl,h5,a6,b6,rfl,h6,a7,b7,rfl,h7,rfl⟩:=qcX Tryz.underlying57 h;obtain⟨z1,g1,rfl⟩:=qdh h1;obtain⟨e2,m2,rfl,k2⟩:=qd6 Tryz.underlying53 h2;obtain⟨l2,rfl,g2⟩:=qfR CS.row CsG e2 fun r hr=>qBP (k2 r hr);obtain⟨e3,m3,rfl,k3⟩:=qd6 Tryz.underlying54 h3;obtain⟨l3,rfl,g3⟩:=qfR DE.row DeG e3 fun r hr=>qBL (k3 r hr);obtain⟨e4,m4,rfl,k4⟩:=qd6 Tryz.underlying55 h4;obtain⟨l4,rfl,g4⟩:=qfR PT.row PtG e4 fun r hr=>qry (k4 r hr);obtain⟨d,rfl⟩:=qkj Tryz.underlying4 h5;obtain⟨e6,m6,rfl,k6⟩:=qd6 Tryz.underlying35 h6;obtain⟨l6,rfl,g6⟩:=qfR qad qiY e6 fun r hr=>qdh (k6 r hr);obtain⟨z7,g7,rfl⟩:=qdh h7;have c1:Tryz.prog.cellsOf 245=31:=by kernel_rfl
 have c2:Tryz.prog.cellsOf 250=3:=by kernel_rfl
 have c3:Tryz.prog.cellsOf 242=3:=by kernel_rfl
 have c4:Tryz.prog.cellsOf 3=1:=by kernel_rfl
 refine⟨⟨z1,l2,l3,l4,d,l6,z7⟩,⟨g1,g2,g3,g4,g6,g7,by simpa using m2,by simpa using m3,by simpa using m4,by simpa using m6⟩,?_⟩;rw[c1,c2,c3,c4];rfl
end Go.Av.F
end
section
namespace Go.Av.F
open Go Go.Av
open Go.Proofs Go.Proofs.Tryz
attribute [-simp] qdQ hdS qao qae qap
attribute [local simp] tt3 tt4 tt9 qzu qzt qzs qqa qzr qqx qqw qqz qqy
theorem qeX:maxLen=9223372036854775807:=by decide
def szR (left:Int) (G:Prop) (r:AV):Prop:=∃ z:Int,r=.int .i64 z∧-1≤z∧z≤left∧(0≤z→G)
theorem qzI (l:List DE) (left:Int) (hl:l.length≤maxLen) (h0:0≤left∧left≤1048576):ACall Go.Proofs.Tryz.prog 131 [.lst 3 (l.map DE.row),.int .i64 left] [] (fun r L'=>szR left ((l.length:Int)≤left) r∧clA r=true∧L'=[]):=by
 rw[qeX]at hl;have e1:IntKind.i64.wrap (left-l.length)=left-l.length:=qax _ (by omega);refine acx func131 [] ntmps131 rfl rfl rfl ?_;simp[e1];by_cases h:left<l.length
 ·have h':left-(l.length:Int)<0:=by omega
  simp[h,h',szR];omega
 ·have h':¬ left-(l.length:Int)<0:=by omega
  simp[h,h',szR];omega
theorem qzG (l:List PT) (left:Int) (hl:l.length≤maxLen) (h0:0≤left∧left≤1048576):ACall Go.Proofs.Tryz.prog 132 [.lst 3 (l.map PT.row),.int .i64 left] [] (fun r L'=>szR left ((l.length:Int)≤left) r∧clA r=true∧L'=[]):=by
 rw[qeX]at hl;have e1:IntKind.i64.wrap (left-l.length)=left-l.length:=qax _ (by omega);refine acx func132 [] ntmps132 rfl rfl rfl ?_;simp[e1];by_cases h:left<l.length
 ·have h':left-(l.length:Int)<0:=by omega
  simp[h,h',szR];omega
 ·have h':¬ left-(l.length:Int)<0:=by omega
  simp[h,h',szR];omega
theorem qzH (l:List Int) (left:Int) (hl:l.length≤maxLen) (h0:0≤left∧left≤1048576):ACall Go.Proofs.Tryz.prog 133 [.lst 1 (l.map qad),.int .i64 left] [] (fun r L'=>szR left ((l.length:Int)≤left) r∧clA r=true∧L'=[]):=by
 rw[qeX]at hl;have e1:IntKind.i64.wrap (left-l.length)=left-l.length:=qax _ (by omega);refine acx func133 [] ntmps133 rfl rfl rfl ?_;simp[e1];by_cases h:left<l.length
 ·have h':left-(l.length:Int)<0:=by omega
  simp[h,h',szR];omega
 ·have h':¬ left-(l.length:Int)<0:=by omega
  simp[h,h',szR];omega
def CsS (s:CS) (n:Int):Prop:=(s.name.length:Int)≤n∧(s.frm.length:Int)≤n
theorem qhO:∀ (l:List PT),(l.flatMap PT.row).length=3 * l.length
 | []=>rfl
 | a::r=>by simp only[qIn,qHe,qhO r,qGk];simp only[PT.row,qGk,qHf];omega
theorem qaC (s:CS) (h:s.map.length=8):s.row.length=31:=by
 simp only[CS.row,qGk,qHe,qhO,h,PT.row,qHf]
theorem qbl (s:CS) (h:s.map.length=8):s.row.take 31=s.row:=qGh (by rw[qaC s h];omega)
theorem qiL (s:CS):∀ x∈s.row,qdn x=true:=fun y hy=>by
 simp only[CS.row,qHq,qHs,qIo,PT.row,qHz,or_false]at hy;rcases hy with rfl | rfl | rfl | ⟨p,_,rfl | rfl | rfl⟩ | (rfl | rfl | rfl) | rfl <;> rfl
theorem qnK:∀ {a b:List AV},clL a=true→clL b=true→clL (a++b)=true
 | [],_,_,h=>h
 | x::a,b,h1,h2=>by
  simp only[clL,qHS,Bool.and_eq_true]at h1 ⊢;exact⟨h1.1,qnK h1.2 h2⟩
theorem qfc:∀ l:List PT,clL (l.flatMap PT.row)=true
 | []=>rfl
 | a::r=>by
  rw[qIn];exact qnK (by simp[PT.row,clL,clA]) (qfc r)
theorem qa1 (s:CS):clL s.row=true:=by
 simp only[CS.row,clL,clA,qIe];exact qnK (qfc _) (by simp[PT.row,clL,clA])
theorem qDl (s:CS) (left:Int) (hg:CsG s) (h0:0≤left∧left≤1048576):ACall Go.Proofs.Tryz.prog 231 [.agg s.row,.int .i64 left] [] (fun r L'=>szR left (CsS s left) r∧clA r=true∧L'=[]):=by
 obtain⟨_,h8,_,_,hn,hf⟩:=hg;rw[qeX]at hn hf;have hl:=qaC s h8;have e1:IntKind.i64.wrap (left-s.name.length)=left-s.name.length:=qax _ (by omega);have g0:(CS.row s)[0]?=some (.str s.name):=rfl;have g2:(CS.row s)[2]?=some (.str s.frm):=rfl;refine acx func231 [] ntmps231 rfl rfl rfl ?_;have q0:(CS.row s)[0]'(by omega)=.str s.name:=rfl;have q2:(CS.row s)[2]'(by omega)=.str s.frm:=rfl;simp[hl,qiL s,g0,g2,q0,q2,e1];by_cases h:left<s.name.length
 ·have h':left-(s.name.length:Int)<0:=by omega
  simp[h,h',szR];omega
 ·have h':¬ left-(s.name.length:Int)<0:=by omega
  have e2:IntKind.i64.wrap (left-s.name.length-s.frm.length)=left-s.name.length-s.frm.length:=qax _ (by omega);by_cases k:left-(s.name.length:Int)<s.frm.length
  ·have k':left-(s.name.length:Int)-s.frm.length<0:=by omega
   simp[h,h',k,k',e2,szR];omega
  ·have k':¬ left-(s.name.length:Int)-s.frm.length<0:=by omega
   simp[h,h',k,k',e2,szR,CsS];omega
theorem qws (l:List CS) (left:Int) (hg:∀ s∈l,CsG s) (hl:l.length≤maxLen) (h0:0≤left∧left≤1048576) :
  ACall Go.Proofs.Tryz.prog 130 [.lst 31 (l.map CS.row),.int .i64 left] [] (fun r L'=>szR left ((l.length:Int)≤left∧∀ s∈l,CsS s left) r∧clA r=true∧L'=[]):=by
 rw[qeX]at hl;have e1:IntKind.i64.wrap (left-l.length)=left-l.length:=qax _ (by omega);refine acx func130 [] ntmps130 rfl rfl rfl ?_;simp[e1];by_cases h:left<l.length
 ·have h':left-(l.length:Int)<0:=by omega
  simp[h,h',szR];omega
 ·have h':¬ left-(l.length:Int)<0:=by omega
  simp[h,h'];intro hle;refine qaR (X:=Nat×Int) [0,1,5] (fun x=>⟨mkT [(0,.lst 31 (l.map CS.row)),(1,.int .i64 x.2),(5,.int .i64 x.1)],qaQ [],Us.of []⟩) (fun x=>l.length-x.1) (fun x=>x.1≤l.length∧0≤x.2∧x.2≤left∧∀ s∈l.take x.1,CsS s left) (0,left-l.length) ⟨⟨by simp,by simp only;omega,by simp only;omega,by simp⟩,[],by simp[qae],by simp[qao]⟩ ?_;rintro⟨i,z⟩ ⟨hi,z0,zl,ha⟩;simp only at hi z0 zl ha;by_cases h1:i<l.length
  ·obtain⟨s,e0⟩:∃ s,l[i]=s:=⟨_,rfl⟩;have e1:l[i]?=some s:=by rw[← e0];exact qF3 h1
   have e2:IntKind.i64.wrap ((i:Int)+1)=((i+1:Nat):Int):=by rw[qax _ (by omega)];omega
   have hs:=hg s (qHT e1);simp[h1,e0,e1,qaC s hs.2.1,qbl s hs.2.1];refine qdU (by kernel_rfl) (qDl s z hs (by omega)) (by simp[qa1]) ?_;rintro r ⟨y,rfl,y1,y2,y3⟩;by_cases hy:y<0
   ·simp[hy,szR];omega
   ·simp[hy,e2];refine qau (i+1,y) (by simp only;omega) ⟨by simp only;omega,by simp only;omega,by simp only;omega,fun x hx=>?_⟩ [] (by simp[qae]) (by simp[qao]);simp only at hx;rw[qHN,e1]at hx;rcases qHs.1 hx with hx | hx
    ·exact ha x hx
    ·simp at hx;subst hx;have:=y3 (by omega);exact⟨by have:=this.1;omega,by have:=this.2;omega⟩
  ·have hie:i=l.length:=by omega
   subst hie;rw[qHW]at ha;simp;exact⟨z,rfl,by omega,zl,fun _=>⟨by omega,ha⟩⟩
def CoS (c:CO):Prop:=c.sets.length≤1048576∧c.ddt.length≤1048576∧c.parts.length≤1048576∧c.safe.length≤1048576∧∀ s∈c.sets,s.name.length≤1048576∧s.frm.length≤1048576
end Go.Av.F
end
section
namespace Go.Av.F
open Go Go.Av
open Go.Proofs Go.Proofs.Tryz
attribute [-simp] qdQ hdS qao qae qap
attribute [local simp] tt3 tt4 tt9 qzu qzt qzs qqa qzr qqx qqw qqz qqy qzv qyN qwi qm3
theorem qfz (p:PT):ACall Go.Proofs.Tryz.prog 236 [.agg p.row] [] (fun r L'=>r=.agg p.row∧L'=[]):=by
 refine acx func236 [] ntmps236 rfl rfl rfl ?_;simp[PT.row]
theorem qzC (p:DE):ACall Go.Proofs.Tryz.prog 235 [.agg p.row] [] (fun r L'=>r=.agg p.row∧L'=[]):=by
 refine acx func235 [] ntmps235 rfl rfl rfl ?_;simp[DE.row]
def qch (l:List (List AV)) (z:List AV) (i:Nat):List (List AV):=l.take i++List.replicate (l.length-i) z
theorem qh7 (l:List (List AV)) (z:List AV) (i:Nat) (h:i≤l.length):(qch l z i).length=l.length:=by simp[qch];omega
theorem qgq (l:List (List AV)) (z:List AV):qch l z 0=List.replicate l.length z:=by simp[qch]
theorem qh9 (l:List (List AV)) (z:List AV):qch l z l.length=l:=by simp[qch]
theorem qh6 {l:List (List AV)} {z x:List AV} {i:Nat} (h:l[i]?=some x):(qch l z i).set i x=qch l z (i+1):=by
 obtain⟨hi,rfl⟩:=qGy.1 h;apply qIp;intro j;unfold qch;rw[qGZ];have hl:(l.take i).length=i:=by simp;omega
 have hl1:(l.take (i+1)).length=i+1:=by simp;omega
 split
 ·rename_i e;subst e;rw[if_pos (by simp;omega),qGq (by omega),qIq (by omega),h]
 ·rename_i e;rcases qGW j i with hj | hj | hj
  ·rw[qGq (by omega),qGq (by omega),qIq hj,qIq (by omega)]
  ·exact absurd hj.symm e
  ·rw[qGp (by omega),qGp (by omega),qHG,qHG,hl,hl1];by_cases k:j<l.length
   ·rw[if_pos (by omega),if_pos (by omega)]
   ·rw[if_neg (by omega),if_neg (by omega)]
theorem qh8 (l:List (List AV)) (z:List AV) (i:Nat) (h:i<l.length):(qch l z i)[i]?=some z:=by
 unfold qch;rw[qGp (by simp;omega),qHG,if_pos (by simp;omega)]
theorem qie {l:List (List AV)} {z:List AV} (i:Nat) (h1:clR l=true) (h2:clL z=true):clR (qch l z i)=true:=by
 refine qyA (quD _ h1) ?_;simp only[clR,qGf];intro x hx;obtain⟨_,rfl⟩:=List.mem_replicate.1 hx;exact h2
theorem qlk {α:Type} (f:α→List AV) (h:∀ a,clL (f a)=true) (l:List α):clR (l.map f)=true:=by
 unfold clR;rw[List.all_map,qGf];intro b _;exact h b
def zPt:List AV:=[.int .i64 0,.int .i64 0,.int .i64 0]
def qzB (l:List PT) (i:Nat):S:=⟨mkT [(0,.lst 3 (l.map PT.row)),(3,.sl 7 0 l.length),(4,.int .i64 i)],qaQ [(7,⟨3,qch (l.map PT.row) zPt i⟩)],Us.of [7]⟩
theorem qwl (l:List PT) (hl:l.length≤1048576):ACall Go.Proofs.Tryz.prog 144 [.lst 3 (l.map PT.row)] [] (fun r L'=>r=.sl 7 0 l.length∧L'=[(7,⟨3,l.map PT.row⟩)]):=by
 refine acx func144 [] ntmps144 rfl rfl rfl ?_;simp;refine⟨by omega,?_⟩;refine qaR (X:=Nat) [0,3,4] (qzB l) (fun i=>l.length-i) (fun i=>i≤l.length) 0 ⟨by simp,[(7,7)],by simp[qae],by simp[qao,qah,qzB,qgq,zPt]⟩ ?_;intro i hi;by_cases h1:i<l.length
 ·obtain⟨x,e0⟩:∃ x,l[i]=x:=⟨_,rfl⟩;have e1:l[i]?=some x:=by rw[← e0];exact qF3 h1
  have e2:IntKind.i64.wrap ((i:Int)+1)=((i+1:Nat):Int):=by rw[qax _ (by omega)];omega
  have hfl:=qh7 (l.map PT.row) zPt i (by simp;omega);have hfg:=qh8 (l.map PT.row) zPt i (by simpa using h1);have hfs:=qh6 (l:=l.map PT.row) (z:=zPt) (x:=x.row) (i:=i) (by simp[e1]);have hx:x.row.length=3:=rfl;have hx2:x.row.take 3=x.row:=rfl;simp[qzB,h1,e0,e1,hx,hx2];refine qaj (by kernel_rfl) (qfz x) (by simp[PT.row]) (by simp[PT.row]) ?_;have hcl:clR (l.map PT.row)=true:=qlk PT.row (fun a=>by simp[PT.row,clL,clA]) l;have hren:∀ ρ,(qch (l.map PT.row) zPt (i+1)).map (qb6 ρ)=qch (l.map PT.row) zPt (i+1):=fun ρ=>qoG ρ (qie (i+1) hcl (by simp[zPt]));have hg0:(qch (l.map PT.row) zPt i)[i]'(by rw[hfl];simpa using h1)=zPt:=(qGy.1 hfg).2;have hd:x.row++List.drop x.row.length zPt=x.row:=by simp[hx,zPt]
  simp[hfl,hfg,h1];refine⟨⟨rfl,fun y hy=>by simp only[PT.row,qHq,qHz,or_false]at hy;rcases hy with rfl | rfl | rfl <;> rfl⟩,?_⟩;rw[hg0,hd,hfs];exact qau (i+1) (by omega) (by omega) [(7,7)] (by simp[qae]) (by simp[qao,qah,qzB,e2,hren])
 ·have:i=l.length:=by omega
  subst this;have:=qh9 (l.map PT.row) zPt;simp at this;simp[qzB,this]
def qzF (l:List DE) (i:Nat):S:=⟨mkT [(0,.lst 3 (l.map DE.row)),(3,.sl 7 0 l.length),(4,.int .i64 i)],qaQ [(7,⟨3,qch (l.map DE.row) zPt i⟩)],Us.of [7]⟩
theorem qwo (l:List DE) (hl:l.length≤1048576):ACall Go.Proofs.Tryz.prog 143 [.lst 3 (l.map DE.row)] [] (fun r L'=>r=.sl 7 0 l.length∧L'=[(7,⟨3,l.map DE.row⟩)]):=by
 refine acx func143 [] ntmps143 rfl rfl rfl ?_;simp;refine⟨by omega,?_⟩;refine qaR (X:=Nat) [0,3,4] (qzF l) (fun i=>l.length-i) (fun i=>i≤l.length) 0 ⟨by simp,[(7,7)],by simp[qae],by simp[qao,qah,qzF,qgq,zPt]⟩ ?_;intro i hi;by_cases h1:i<l.length
 ·obtain⟨x,e0⟩:∃ x,l[i]=x:=⟨_,rfl⟩;have e1:l[i]?=some x:=by rw[← e0];exact qF3 h1
  have e2:IntKind.i64.wrap ((i:Int)+1)=((i+1:Nat):Int):=by rw[qax _ (by omega)];omega
  have hfl:=qh7 (l.map DE.row) zPt i (by simp;omega);have hfg:=qh8 (l.map DE.row) zPt i (by simpa using h1);have hfs:=qh6 (l:=l.map DE.row) (z:=zPt) (x:=x.row) (i:=i) (by simp[e1]);have hx:x.row.length=3:=rfl;have hx2:x.row.take 3=x.row:=rfl;simp[qzF,h1,e0,e1,hx,hx2];refine qaj (by kernel_rfl) (qzC x) (by simp[DE.row]) (by simp[DE.row]) ?_;have hcl:clR (l.map DE.row)=true:=qlk DE.row (fun a=>by simp[DE.row,clL,clA]) l;have hren:∀ ρ,(qch (l.map DE.row) zPt (i+1)).map (qb6 ρ)=qch (l.map DE.row) zPt (i+1):=fun ρ=>qoG ρ (qie (i+1) hcl (by simp[zPt]));have hg0:(qch (l.map DE.row) zPt i)[i]'(by rw[hfl];simpa using h1)=zPt:=(qGy.1 hfg).2;have hd:x.row++List.drop x.row.length zPt=x.row:=by simp[hx,zPt]
  simp[hfl,hfg,h1];refine⟨⟨rfl,fun y hy=>by simp only[DE.row,qHq,qHz,or_false]at hy;rcases hy with rfl | rfl | rfl <;> rfl⟩,?_⟩;rw[hg0,hd,hfs];exact qau (i+1) (by omega) (by omega) [(7,7)] (by simp[qae]) (by simp[qao,qah,qzF,e2,hren])
 ·have:i=l.length:=by omega
  subst this;have:=qh9 (l.map DE.row) zPt;simp at this;simp[qzF,this]
def zInt:List AV:=[.int .i64 0]
def qzE (l:List Int) (i:Nat):S:=⟨mkT [(0,.lst 1 (l.map qad)),(3,.sl 7 0 l.length),(4,.int .i64 i)],qaQ [(7,⟨1,qch (l.map qad) zInt i⟩)],Us.of [7]⟩
theorem qwn (l:List Int) (hl:l.length≤1048576):ACall Go.Proofs.Tryz.prog 13 [.lst 1 (l.map qad)] [] (fun r L'=>r=.sl 7 0 l.length∧L'=[(7,⟨1,l.map qad⟩)]):=by
 refine acx func13 [] ntmps13 rfl rfl rfl ?_;simp;refine⟨by omega,?_⟩;refine qaR (X:=Nat) [0,3,4] (qzE l) (fun i=>l.length-i) (fun i=>i≤l.length) 0 ⟨by simp,[(7,7)],by simp[qae],by simp[qao,qah,qzE,qgq,zInt]⟩ ?_;intro i hi;by_cases h1:i<l.length
 ·obtain⟨x,e0⟩:∃ x,l[i]=x:=⟨_,rfl⟩;have e1:l[i]?=some x:=by rw[← e0];exact qF3 h1
  have e2:IntKind.i64.wrap ((i:Int)+1)=((i+1:Nat):Int):=by rw[qax _ (by omega)];omega
  have hfl:=qh7 (l.map qad) zInt i (by simp;omega);have hfg:=qh8 (l.map qad) zInt i (by simpa using h1);have hfs:=qh6 (l:=l.map qad) (z:=zInt) (x:=qad x) (i:=i) (by simp[e1]);have hx:(qad x).length=1:=rfl;have hx2:qad x=[.int .i64 x]:=rfl;have hcl:clR (l.map qad)=true:=qlk qad (fun a=>by simp[qad,clL,clA]) l;have hren:∀ ρ,(qch (l.map qad) zInt (i+1)).map (qb6 ρ)=qch (l.map qad) zInt (i+1):=fun ρ=>qoG ρ (qie (i+1) hcl (by simp[zInt]));have hg0:(qch (l.map qad) zInt i)[i]'(by rw[hfl];simpa using h1)=zInt:=(qGy.1 hfg).2;have hzt:zInt.tail=[]:=rfl;have hzl:zInt.length=1:=rfl;have hfl':(qch (l.map qad) zInt i).length=l.length:=by rw[hfl];simp
  rw[hx2]at hfs;simp[qzE,h1,e0,e1,hx,hx2,hfl',hfg,hg0,hzt,hzl,hfs];exact qau (i+1) (by omega) (by omega) [(7,7)] (by simp[qae]) (by simp[qao,qah,qzE,e2,hren])
 ·have:i=l.length:=by omega
  subst this;have:=qh9 (l.map qad) zInt;simp at this;simp[qzE,this]
end Go.Av.F
end
section
namespace Go.Av.F
open Go Go.Av
open Go.Proofs Go.Proofs.Tryz
attribute [-simp] qdQ hdS qao qae qap
attribute [local simp] qqA qzw qC3
attribute [local simp] tt3 tt4 tt9 qzu qzt qzs qqa qzr qqx qqw qqz qqy qzv qyN qwi qm3 qta
def qlr (l:List PT) (i:Nat):S :=
 ⟨mkT [(1,.ptr 1 0 0),(2,.ptr 2 0 0),(3,.ptr 3 0 0),(4,.int .i64 i)],qaQ [(1,⟨24,[l.flatMap PT.row]⟩),(2,⟨24,[List.replicate 24 (.int .i64 0)]⟩),(3,⟨24,[(l.take i).flatMap PT.row++List.replicate (24-3 * i) (.int .i64 0)]⟩)],Us.of [1,2,3]⟩
theorem qDi (p0 p1 p2 p3 p4 p5 p6 p7:PT):ACall Go.Proofs.Tryz.prog 300 [.agg ([p0,p1,p2,p3,p4,p5,p6,p7].flatMap PT.row)] [] (fun r L'=>r=.agg ([p0,p1,p2,p3,p4,p5,p6,p7].flatMap PT.row)∧L'=[]):=by
 refine acx func300 [] ntmps300 rfl rfl rfl ?_;simp[PT.row];refine qaR (X:=Nat) [1,2,3,4] (qlr [p0,p1,p2,p3,p4,p5,p6,p7]) (fun i=>8-i) (fun i=>i≤8) 0 ⟨by simp,[(1,1),(2,2),(3,3)],by simp[qae],by simp[qao,qah,qlr,PT.row]⟩ ?_;intro i hi;have hw:∀ k:Nat,k≤8→IntKind.i64.wrap ((k:Int)+1)=(k:Int)+1:=fun k hk=>qax _ (by omega);have hc:i=0∨i=1∨i=2∨i=3∨i=4∨i=5∨i=6∨i=7∨i=8:=by omega
 rcases hc with rfl | rfl | rfl | rfl | rfl | rfl | rfl | rfl | rfl
 ·simp[qlr,PT.row];refine qaj (by kernel_rfl) (qfz p0) (by simp[PT.row]) (by simp[PT.row]) ?_;simp[PT.row];have w1:IntKind.i64.wrap 1=1:=by decide
  exact qau 1 (by omega) (by omega) [(1,1),(2,2),(3,3)] (by simp[qae]) (by simp[qao,qah,qlr,PT.row,w1])
 ·simp[qlr,PT.row];refine qaj (by kernel_rfl) (qfz p1) (by simp[PT.row]) (by simp[PT.row]) ?_;simp[PT.row];have w2:IntKind.i64.wrap 2=2:=by decide
  exact qau 2 (by omega) (by omega) [(1,1),(2,2),(3,3)] (by simp[qae]) (by simp[qao,qah,qlr,PT.row,w2])
 ·simp[qlr,PT.row];refine qaj (by kernel_rfl) (qfz p2) (by simp[PT.row]) (by simp[PT.row]) ?_;simp[PT.row];have w3:IntKind.i64.wrap 3=3:=by decide
  exact qau 3 (by omega) (by omega) [(1,1),(2,2),(3,3)] (by simp[qae]) (by simp[qao,qah,qlr,PT.row,w3])
 ·simp[qlr,PT.row];refine qaj (by kernel_rfl) (qfz p3) (by simp[PT.row]) (by simp[PT.row]) ?_;simp[PT.row];have w4:IntKind.i64.wrap 4=4:=by decide
  exact qau 4 (by omega) (by omega) [(1,1),(2,2),(3,3)] (by simp[qae]) (by simp[qao,qah,qlr,PT.row,w4])
 ·simp[qlr,PT.row];refine qaj (by kernel_rfl) (qfz p4) (by simp[PT.row]) (by simp[PT.row]) ?_;simp[PT.row];have w5:IntKind.i64.wrap 5=5:=by decide
  exact qau 5 (by omega) (by omega) [(1,1),(2,2),(3,3)] (by simp[qae]) (by simp[qao,qah,qlr,PT.row,w5])
 ·simp[qlr,PT.row];refine qaj (by kernel_rfl) (qfz p5) (by simp[PT.row]) (by simp[PT.row]) ?_;simp[PT.row];have w6:IntKind.i64.wrap 6=6:=by decide
  exact qau 6 (by omega) (by omega) [(1,1),(2,2),(3,3)] (by simp[qae]) (by simp[qao,qah,qlr,PT.row,w6])
 ·simp[qlr,PT.row];refine qaj (by kernel_rfl) (qfz p6) (by simp[PT.row]) (by simp[PT.row]) ?_;simp[PT.row];have w7:IntKind.i64.wrap 7=7:=by decide
  exact qau 7 (by omega) (by omega) [(1,1),(2,2),(3,3)] (by simp[qae]) (by simp[qao,qah,qlr,PT.row,w7])
 ·simp[qlr,PT.row];refine qaj (by kernel_rfl) (qfz p7) (by simp[PT.row]) (by simp[PT.row]) ?_;simp[PT.row];have w8:IntKind.i64.wrap 8=8:=by decide
  exact qau 8 (by omega) (by omega) [(1,1),(2,2),(3,3)] (by simp[qae]) (by simp[qao,qah,qlr,PT.row,w8])
 ·simp[qlr,PT.row]
theorem qBD (l:List PT) (h:l.length=8):∃ p0 p1 p2 p3 p4 p5 p6 p7,l=[p0,p1,p2,p3,p4,p5,p6,p7]:=by
 match l,h with
 | [a,b,c,d,e,f,g,i],_=>exact⟨a,b,c,d,e,f,g,i,rfl⟩
theorem qDg (s:CS) (h8:s.map.length=8):ACall Go.Proofs.Tryz.prog 234 [.agg s.row] [] (fun r L'=>r=.agg s.row∧L'=[]):=by
 obtain⟨nm,kd,fr,mp,hm,dt⟩:=s;simp only at h8;obtain⟨p0,p1,p2,p3,p4,p5,p6,p7,rfl⟩:=qBD mp h8;refine acx func234 [] ntmps234 rfl rfl rfl ?_;simp[CS.row,PT.row];refine qaj (by kernel_rfl) (qDi p0 p1 p2 p3 p4 p5 p6 p7) (by simp[PT.row]) (by simp[PT.row]) ?_;simp[PT.row];refine qaj (by kernel_rfl) (qfz hm) (by simp[PT.row]) (by simp[PT.row]) ?_;simp[PT.row]
def zCs:List AV:=.str []::.int .i64 0::.str []::(List.replicate 27 (.int .i64 0)++[.bool false])
theorem qzh:clL zCs=true:=by decide
def qzy (l:List CS) (i:Nat):S:=⟨mkT [(0,.lst 31 (l.map CS.row)),(3,.sl 7 0 l.length),(4,.int .i64 i)],qaQ [(7,⟨31,qch (l.map CS.row) zCs i⟩)],Us.of [7]⟩
theorem qzD (l:List CS) (hl:l.length≤1048576) (h8:∀ s∈l,s.map.length=8):ACall Go.Proofs.Tryz.prog 142 [.lst 31 (l.map CS.row)] [] (fun r L'=>r=.sl 7 0 l.length∧L'=[(7,⟨31,l.map CS.row⟩)]):=by
 refine acx func142 [] ntmps142 rfl rfl rfl ?_;simp;refine⟨by omega,?_⟩;refine qaR (X:=Nat) [0,3,4] (qzy l) (fun i=>l.length-i) (fun i=>i≤l.length) 0 ⟨by simp,[(7,7)],by simp[qae],by simp[qao,qah,qzy,qgq,zCs]⟩ ?_;intro i hi;by_cases h1:i<l.length
 ·obtain⟨x,e0⟩:∃ x,l[i]=x:=⟨_,rfl⟩;have e1:l[i]?=some x:=by rw[← e0];exact qF3 h1
  have e2:IntKind.i64.wrap ((i:Int)+1)=((i+1:Nat):Int):=by rw[qax _ (by omega)];omega
  have hfl:=qh7 (l.map CS.row) zCs i (by simp;omega);have hfg:=qh8 (l.map CS.row) zCs i (by simpa using h1);have hfs:=qh6 (l:=l.map CS.row) (z:=zCs) (x:=x.row) (i:=i) (by simp[e1]);have hx8:=h8 x (qHT e1);have hx:x.row.length=31:=qaC x hx8;have hx2:x.row.take 31=x.row:=qbl x hx8;simp[qzy,h1,e0,e1,hx,hx2];refine qaj (by kernel_rfl) (qDg x hx8) (by simp[qa1]) (by simp[qa1]) ?_;have hcl:clR (l.map CS.row)=true:=qlk CS.row qa1 l;have hren:∀ ρ,(qch (l.map CS.row) zCs (i+1)).map (qb6 ρ)=qch (l.map CS.row) zCs (i+1):=fun ρ=>qoG ρ (qie (i+1) hcl qzh);have hg0:(qch (l.map CS.row) zCs i)[i]'(by rw[hfl];simpa using h1)=zCs:=(qGy.1 hfg).2;have hd:x.row++List.drop x.row.length zCs=x.row:=by simp[hx,zCs]
  simp[hfl,hfg,h1];refine⟨⟨hx,qiL x⟩,?_⟩;rw[hg0,hd,hfs];exact qau (i+1) (by omega) (by omega) [(7,7)] (by simp[qae]) (by simp[qao,qah,qzy,e2,hren])
 ·have:i=l.length:=by omega
  subst this;have:=qh9 (l.map CS.row) zCs;simp at this;simp[qzy,this]
theorem frzP {f:Nat} {args:List AV} {sz:Nat} {rows:List (List AV)} {n:Nat} (hn:n=rows.length) (hcl:clR rows=true) (h:ACall Go.Proofs.Tryz.prog f args [] (fun r L'=>r=.sl 7 0 n∧L'=[(7,⟨sz,rows⟩)])):ACall Go.Proofs.Tryz.prog f args [] (fun r L'=>r=.lst sz rows∧L'=[]):=by
 refine h.frz ?_;rintro r L' ⟨rfl,rfl⟩;refine⟨7,⟨sz,rows⟩,rfl,hcl,?_,rfl⟩;subst hn;simp
theorem qDM (p:PT):clL p.row=true:=by simp[PT.row,clL,clA]
theorem qEz (p:DE):clL p.row=true:=by simp[DE.row,clL,clA]
end Go.Av.F
end
section
namespace Go.Av.F
open Go Go.Av
open Go.Proofs Go.Proofs.Tryz
attribute [-simp] qdQ hdS qao qae qap
attribute [local simp] qqA qzw qC3
attribute [local simp] tt3 tt4 tt9 qzu qzt qzs qqa qzr qqx qqw qqz qqy qzv qyN qwi qm3 qta
theorem qfG (p:PT):ACall Go.Proofs.Tryz.prog 230 [.agg p.row,.agg p.row] [] (fun r L'=>r=.bool true∧L'=[]):=by
 refine acx func230 [] ntmps230 rfl rfl rfl ?_;simp[PT.row]
theorem qBB (p:DE):ACall Go.Proofs.Tryz.prog 229 [.agg p.row,.agg p.row] [] (fun r L'=>r=.bool true∧L'=[]):=by
 refine acx func229 [] ntmps229 rfl rfl rfl ?_;simp[DE.row]
theorem qyb (l:List PT) (hl:l.length≤1048576):ACall Go.Proofs.Tryz.prog 122 [.lst 3 (l.map PT.row),.lst 3 (l.map PT.row)] [] (fun r L'=>r=.bool true∧L'=[]):=by
 refine acx func122 [] ntmps122 rfl rfl rfl ?_;simp;refine qaR (X:=Nat) [0,1,5] (fun i=>⟨mkT [(0,.lst 3 (l.map PT.row)),(1,.lst 3 (l.map PT.row)),(5,.int .i64 i)],qaQ [],Us.of []⟩) (fun i=>l.length-i) (fun i=>i≤l.length) 0 ⟨by simp,[],by simp[qae],by simp[qao]⟩ ?_;intro i hi;by_cases h1:i<l.length
 ·obtain⟨x,e0⟩:∃ x,l[i]=x:=⟨_,rfl⟩;have e1:l[i]?=some x:=by rw[← e0];exact qF3 h1
  have e2:IntKind.i64.wrap ((i:Int)+1)=((i+1:Nat):Int):=by rw[qax _ (by omega)];omega
  have hx:x.row.length=3:=rfl;have hx2:x.row.take 3=x.row:=rfl;simp[h1,e0,e1,hx,hx2];refine qaj (by kernel_rfl) (qfG x) (by simp[qDM]) (by simp) ?_;simp[e2];exact qau (i+1) (by omega) (by omega) [] (by simp[qae]) (by simp[qao])
 ·have:i=l.length:=by omega
  subst this;simp
theorem qye (l:List DE) (hl:l.length≤1048576):ACall Go.Proofs.Tryz.prog 121 [.lst 3 (l.map DE.row),.lst 3 (l.map DE.row)] [] (fun r L'=>r=.bool true∧L'=[]):=by
 refine acx func121 [] ntmps121 rfl rfl rfl ?_;simp;refine qaR (X:=Nat) [0,1,5] (fun i=>⟨mkT [(0,.lst 3 (l.map DE.row)),(1,.lst 3 (l.map DE.row)),(5,.int .i64 i)],qaQ [],Us.of []⟩) (fun i=>l.length-i) (fun i=>i≤l.length) 0 ⟨by simp,[],by simp[qae],by simp[qao]⟩ ?_;intro i hi;by_cases h1:i<l.length
 ·obtain⟨x,e0⟩:∃ x,l[i]=x:=⟨_,rfl⟩;have e1:l[i]?=some x:=by rw[← e0];exact qF3 h1
  have e2:IntKind.i64.wrap ((i:Int)+1)=((i+1:Nat):Int):=by rw[qax _ (by omega)];omega
  have hx:x.row.length=3:=rfl;have hx2:x.row.take 3=x.row:=rfl;simp[h1,e0,e1,hx,hx2];refine qaj (by kernel_rfl) (qBB x) (by simp[qEz]) (by simp) ?_;simp[e2];exact qau (i+1) (by omega) (by omega) [] (by simp[qae]) (by simp[qao])
 ·have:i=l.length:=by omega
  subst this;simp
theorem qyd (l:List Int) (hl:l.length≤1048576):ACall Go.Proofs.Tryz.prog 15 [.lst 1 (l.map qad),.lst 1 (l.map qad)] [] (fun r L'=>r=.bool true∧L'=[]):=by
 refine acx func15 [] ntmps15 rfl rfl rfl ?_;simp;refine qaR (X:=Nat) [0,1,5] (fun i=>⟨mkT [(0,.lst 1 (l.map qad)),(1,.lst 1 (l.map qad)),(5,.int .i64 i)],qaQ [],Us.of []⟩) (fun i=>l.length-i) (fun i=>i≤l.length) 0 ⟨by simp,[],by simp[qae],by simp[qao]⟩ ?_;intro i hi;by_cases h1:i<l.length
 ·obtain⟨x,e0⟩:∃ x,l[i]=x:=⟨_,rfl⟩;have e1:l[i]?=some x:=by rw[← e0];exact qF3 h1
  have e2:IntKind.i64.wrap ((i:Int)+1)=((i+1:Nat):Int):=by rw[qax _ (by omega)];omega
  simp[h1,e0,e1,qad,e2];exact qau (i+1) (by omega) (by omega) [] (by simp[qae]) (by simp[qao,qad])
 ·have:i=l.length:=by omega
  subst this;simp
def qk5 (l:List PT) (i:Nat):S :=
 ⟨mkT [(2,.ptr 2 0 0),(3,.ptr 3 0 0),(5,.int .i64 i)],qaQ [(2,⟨24,[l.flatMap PT.row]⟩),(3,⟨24,[l.flatMap PT.row]⟩)],Us.of [2,3]⟩
theorem qEv (p0 p1 p2 p3 p4 p5 p6 p7:PT):ACall Go.Proofs.Tryz.prog 299 [.agg ([p0,p1,p2,p3,p4,p5,p6,p7].flatMap PT.row),.agg ([p0,p1,p2,p3,p4,p5,p6,p7].flatMap PT.row)] [] (fun r L'=>r=.bool true∧L'=[]):=by
 refine acx func299 [(4,[zI 0,zI 1,zJ 2 [2] [],zJ 3 [] [2],zJ 4 [] [2],zJ 5 [3] [2],zI 6,zI 7])] ntmps299 rfl rfl rfl ?_;simp[PT.row];refine qaR (X:=Nat) [2,3,5] (qk5 [p0,p1,p2,p3,p4,p5,p6,p7]) (fun i=>8-i) (fun i=>i≤8) 0 ⟨by simp,[(2,2),(3,3)],by simp[qae],by simp[qao,qah,qk5,PT.row]⟩ ?_;intro i hi;have hc:i=0∨i=1∨i=2∨i=3∨i=4∨i=5∨i=6∨i=7∨i=8:=by omega
 rcases hc with rfl | rfl | rfl | rfl | rfl | rfl | rfl | rfl | rfl
 ·simp[qk5,PT.row];refine qaj (by kernel_rfl) (qfG p0) (by simp[PT.row]) (by simp) ?_;have w1:IntKind.i64.wrap 1=1:=by decide
  simp[PT.row,w1];exact qau 1 (by omega) (by omega) [(2,2),(3,3)] (by simp[qae]) (by simp[qao,qah,qk5,PT.row])
 ·simp[qk5,PT.row];refine qaj (by kernel_rfl) (qfG p1) (by simp[PT.row]) (by simp) ?_;have w2:IntKind.i64.wrap 2=2:=by decide
  simp[PT.row,w2];exact qau 2 (by omega) (by omega) [(2,2),(3,3)] (by simp[qae]) (by simp[qao,qah,qk5,PT.row])
 ·simp[qk5,PT.row];refine qaj (by kernel_rfl) (qfG p2) (by simp[PT.row]) (by simp) ?_;have w3:IntKind.i64.wrap 3=3:=by decide
  simp[PT.row,w3];exact qau 3 (by omega) (by omega) [(2,2),(3,3)] (by simp[qae]) (by simp[qao,qah,qk5,PT.row])
 ·simp[qk5,PT.row];refine qaj (by kernel_rfl) (qfG p3) (by simp[PT.row]) (by simp) ?_;have w4:IntKind.i64.wrap 4=4:=by decide
  simp[PT.row,w4];exact qau 4 (by omega) (by omega) [(2,2),(3,3)] (by simp[qae]) (by simp[qao,qah,qk5,PT.row])
 ·simp[qk5,PT.row];refine qaj (by kernel_rfl) (qfG p4) (by simp[PT.row]) (by simp) ?_;have w5:IntKind.i64.wrap 5=5:=by decide
  simp[PT.row,w5];exact qau 5 (by omega) (by omega) [(2,2),(3,3)] (by simp[qae]) (by simp[qao,qah,qk5,PT.row])
 ·simp[qk5,PT.row];refine qaj (by kernel_rfl) (qfG p5) (by simp[PT.row]) (by simp) ?_;have w6:IntKind.i64.wrap 6=6:=by decide
  simp[PT.row,w6];exact qau 6 (by omega) (by omega) [(2,2),(3,3)] (by simp[qae]) (by simp[qao,qah,qk5,PT.row])
 ·simp[qk5,PT.row];refine qaj (by kernel_rfl) (qfG p6) (by simp[PT.row]) (by simp) ?_;have w7:IntKind.i64.wrap 7=7:=by decide
  simp[PT.row,w7];exact qau 7 (by omega) (by omega) [(2,2),(3,3)] (by simp[qae]) (by simp[qao,qah,qk5,PT.row])
 ·simp[qk5,PT.row];refine qaj (by kernel_rfl) (qfG p7) (by simp[PT.row]) (by simp) ?_;have w8:IntKind.i64.wrap 8=8:=by decide
  simp[PT.row,w8];exact qau 8 (by omega) (by omega) [(2,2),(3,3)] (by simp[qae]) (by simp[qao,qah,qk5,PT.row])
 ·simp[qk5,PT.row]
theorem qEt (s:CS) (h8:s.map.length=8):ACall Go.Proofs.Tryz.prog 228 [.agg s.row,.agg s.row] [] (fun r L'=>r=.bool true∧L'=[]):=by
 obtain⟨nm,kd,fr,mp,hm,dt⟩:=s;simp only at h8;obtain⟨p0,p1,p2,p3,p4,p5,p6,p7,rfl⟩:=qBD mp h8;refine acx func228 [] ntmps228 rfl rfl rfl ?_;simp[CS.row,PT.row];refine qaj (by kernel_rfl) (qEv p0 p1 p2 p3 p4 p5 p6 p7) (by simp[PT.row]) (by simp) ?_;simp[PT.row];refine qaj (by kernel_rfl) (qfG hm) (by simp[PT.row]) (by simp) ?_;simp[PT.row]
theorem qBC (l:List CS) (hl:l.length≤1048576) (h8:∀ s∈l,s.map.length=8):ACall Go.Proofs.Tryz.prog 120 [.lst 31 (l.map CS.row),.lst 31 (l.map CS.row)] [] (fun r L'=>r=.bool true∧L'=[]):=by
 refine acx func120 [] ntmps120 rfl rfl rfl ?_;simp;refine qaR (X:=Nat) [0,1,5] (fun i=>⟨mkT [(0,.lst 31 (l.map CS.row)),(1,.lst 31 (l.map CS.row)),(5,.int .i64 i)],qaQ [],Us.of []⟩) (fun i=>l.length-i) (fun i=>i≤l.length) 0 ⟨by simp,[],by simp[qae],by simp[qao]⟩ ?_;intro i hi;by_cases h1:i<l.length
 ·obtain⟨x,e0⟩:∃ x,l[i]=x:=⟨_,rfl⟩;have e1:l[i]?=some x:=by rw[← e0];exact qF3 h1
  have e2:IntKind.i64.wrap ((i:Int)+1)=((i+1:Nat):Int):=by rw[qax _ (by omega)];omega
  have hx8:=h8 x (qHT e1);simp[h1,e0,e1,qaC x hx8,qbl x hx8];refine qaj (by kernel_rfl) (qEt x hx8) (by simp[qa1]) (by simp) ?_;simp[e2];exact qau (i+1) (by omega) (by omega) [] (by simp[qae]) (by simp[qao])
 ·have:i=l.length:=by omega
  subst this;simp
end Go.Av.F
end
section
namespace Go.Av.F
open Go Go.Av
open Go.Proofs Go.Proofs.Tryz
attribute [-simp] qdQ hdS qao qae qap
attribute [local simp] tt3 tt4 tt9 tt5 qcp qdc qcW qcV qdb qdL qmU qqa
def OpG (o:BO):Prop:=o.a.length≤24∧o.b.length≤24
theorem qmb (x:Int):qA8 [.int .u8 (IntKind.u8.wrap x)]=true:=by
 have h:IntKind.u8.wrap x=x % 256:=rfl;simp[qA8,h]
 try omega
end Go.Av.F
end
section
namespace Go.Av.F
open Go Go.Av
open Go.Proofs Go.Proofs.Tryz
attribute [-simp] qdQ hdS qao qae qap
attribute [local simp] tt3 tt4 tt9 tt5 qcp qdc qcW qcV qdb qdL qmU qqa
def BkG (bs:List BS):Prop:=∀ b∈bs,b.bl.length=8∧b.name.length≤24∧b.frm.length≤24
theorem qnf {bs:List BS} {s:BS} (h:BkG bs) (hs:s.bl.length=8∧s.name.length≤24∧s.frm.length≤24):BkG (qfp bs s).1:=fun b hb=>by
 rcases qtR hb with h1 | rfl
 ·exact h b h1
 ·exact hs
theorem qBI {bs:List BS} {o:BO} (h:BkG bs) (ho:OpG o):BkG (doB bs o).1:=by
 have hg:∀ (i:Nat) t,bs[i]?=some t→t.bl.length=8∧t.name.length≤24∧t.frm.length≤24:=fun i t ht=>h _ (qHT ht);unfold doB;split
 ·exact qnf h ⟨rfl,ho.1,by simp⟩
 ·split
  ·exact h
  ·split
   ·exact h
   ·split
    ·rename_i t ht;have:=hg _ _ ht;split
     ·unfold qgW;split
      ·split
       ·exact h
       ·intro b hb;simp only[qHs]at hb;rcases hb with hb | hb
        ·exact h _ (qHP hb)
        ·exact h _ (qIh hb)
      ·exact h
     ·split
      ·unfold qhv;split
       ·rename_i t2 ht2;have:=hg _ _ ht2;split
        ·exact h
        ·split
         ·exact h
         ·intro b hb;rcases qrP hb with hb | rfl
          ·exact h _ hb
          ·exact⟨by simp[this.1],this.2⟩
       ·exact h
      ·split
       ·unfold qcS;split
        ·rename_i t2 ht2;have h2:=hg _ _ ht2;split
         ·exact h
         ·split
          ·rename_i u hu;have h3:=hg _ _ hu;split
           ·exact h
           ·intro b hb;rcases qrP hb with hb | rfl
            ·exact h _ hb
            ·exact⟨h3.1,h2.2⟩
          ·exact h
        ·exact h
       ·split
        ·split
         ·exact h
         ·exact qnf h ⟨this.1,ho.2,this.2.1⟩
        ·split
         ·exact h
         ·exact qnf h ⟨this.1,ho.2,this.2.1⟩
    ·exact h
end Go.Av.F
end
section
namespace Go.Av.F
open Go Go.Av
open Go.Proofs Go.Proofs.Tryz
attribute [-simp] qdQ hdS qao qae qap
attribute [local simp] tt3 tt4 tt9 tt5 qcp qdc qcW qcV qdb qdL qmU qqa
@[simp] theorem qAl (t:BS):(BS.row t).drop 1=.int .i64 t.kind::.str t.frm::t.bl.map .str:=rfl
@[simp] theorem qAk (t:BS):(BS.row t).drop 2=.str t.frm::t.bl.map .str:=rfl
@[simp] theorem qAj (t:BS):(BS.row t).take 1=[.str t.name]:=rfl
@[simp] theorem qAi (t:BS):(BS.row t).take 2=[.str t.name,.int .i64 t.kind]:=rfl
@[simp] theorem qAh (t:BS):(BS.row t).take 3=[.str t.name,.int .i64 t.kind,.str t.frm]:=rfl
end Go.Av.F
end
section
namespace Go.Av.F
open Go Go.Av
open Go.Proofs Go.Proofs.Tryz
attribute [-simp] qdQ hdS qao qae qap
attribute [local simp] tt3 tt4 tt9 tt5 qcp qdc qcW qcV qdb qdL qmU qqa
end Go.Av.F
end
section
namespace Go.Av.F
open Go Go.Av
open Go.Proofs Go.Proofs.Tryz
attribute [-simp] qdQ hdS qao qae qap
def qls (bs:List BS) (o:BO):List BS×Int:=if qa3 bs=true then doB bs o else ([],5)
def bkP (res:List BS×Int) (r:AV) (L':List (Nat×Ob)):Prop:=r=.tup [bk res.1,.int .i64 res.2]∧L'=[]
theorem qpd:∀ bs:List BS,clR (bs.map BS.row)=true
 | []=>rfl
 | a::r=>by
  have:=qpd r;simp only[clR,qGs,qHm,Bool.and_eq_true]at this ⊢;refine⟨?_,this⟩;simp[BS.row,clL,qif,clA]
theorem qDL {f:Nat} {args:List AV} {xs:List Nat} {bs:List BS} {o:BO} (h:ACall Go.Proofs.Tryz.prog f args [] (bkN xs (qa3 bs) (doB bs o))):ACall Go.Proofs.Tryz.prog f args [] (bkP (qls bs o)):=by
 unfold qls;cases h1:qa3 bs with
 | false =>
  rw[h1]at h;refine h.imp ?_;rintro r L' hr;simp only[bkN,qFY,if_false]at hr;obtain⟨rfl,rfl⟩:=hr;exact⟨_,qrY (qrZ (qa2 11)) (qaE _),rfl,rfl⟩
 | true =>
  rw[h1]at h;refine h.frz ?_;rintro r L' hr;simp only[bkN,if_true]at hr;obtain⟨id,_,rfl,rfl⟩:=hr;refine⟨id,qba (doB bs o).1,rfl,qpd _,?_,rfl⟩;simp[bk,qba]
theorem qxM (bs:List BS) (hb:BkG bs) (hl:bs.length<1500000):ACall Go.Proofs.Tryz.prog 181 [bk bs] [] (fun r L'=>r=.bool (qa3 bs)∧L'=[]) :=
 qtO bs ▸ qkP bs (by omega) (fun b h=>(hb b h).1) (fun b h=>by have:=(hb b h).2.1;omega)
theorem qwO (bs:List BS) (hb:BkG bs) (hl:bs.length<1500000):ACall Go.Proofs.Tryz.prog 161 [bk bs] [] (fun r L'=>r=.bool (qa3 bs)∧L'=[]) :=
 qnM bs (by omega) (fun b h=>(hb b h).1) (fun b h=>by have:=(hb b h).2.1;omega)
end Go.Av.F
end
section
namespace Go.Av.F
open Go Go.Av
open Go.Proofs Go.Proofs.Tryz
attribute [-simp] qdQ hdS qao qae qap
attribute [local simp] tt3 tt4 tt9 tt5 qcp qdc qcW qcV qdb qdL qmU qqa qwj
structure TR where
 base:List BS
 since:List BO
 sure:Int
def TR.row (t:TR):List AV:=[.lst 11 (t.base.map BS.row),.lst 5 (t.since.map BO.row),.int .i64 t.sure]
def qyH (b:List BS):List AV:=[.lst 11 (b.map BS.row)]
theorem qvk (o:BO):(BO.row o).length=5:=rfl
theorem qrD (o:BO):(BO.row o).take 5=BO.row o:=rfl
attribute [local simp] qvk qrD
end Go.Av.F
end
section
namespace Go.Av.F
open Go Go.Av
open Go.Proofs Go.Proofs.Tryz
attribute [-simp] qdQ hdS qao qae qap
attribute [local simp] tt3 tt4 tt9 tt5 qcp qdc qcW qcV qdb qdL qmU qqa qwj qvk qrD
def qxv (l:List BO):Ob:=⟨5,l.map BO.row⟩
theorem qAF (l:List BO):(qxv l).sz=5:=rfl
theorem qxu (l:List BO):(qxv l).els=l.map BO.row:=rfl
attribute [local simp] qAF qxu
def zTr:Ob:=⟨3,[[.nils,.nils,.int .i64 0]]⟩
def tA (bs:List UInt8) (x:Int×List BS):S :=
 ⟨mkT [(0,.ptr 1000 0 0),(2,.ptr 2 0 0),(3,.ptr 3 0 0),(4,.ptr 4 0 0)],qaQ [(1000,qAw bs x.1),(2,zTr),(3,⟨3,[[.lst 11 (x.2.map BS.row),.nils,.int .i64 0]]⟩),(4,⟨1,[qyH x.2]⟩)],Us.of [1000,1000,2,3,4]⟩
def tN (bs:List UInt8) (b:List BS) (sure:Int) (q:Int) (i:Int):S :=
 ⟨mkT [(0,.ptr 1000 0 0),(2,.ptr 2 0 0),(3,.ptr 3 0 0),(4,.ptr 4 0 0),(5,.int .i64 i)],qaQ [(1000,qAw bs q),(2,zTr),(3,⟨3,[[.lst 11 (b.map BS.row),.nils,.int .i64 sure]]⟩),(4,⟨1,[qyH b]⟩)],Us.of [1000,1000,2,3,4]⟩
def tC (bs:List UInt8) (b:List BS) (sure:Int) (ops:List BO) (q:Int) (i:Int):S :=
 ⟨mkT [(0,.ptr 1000 0 0),(2,.ptr 2 0 0),(3,.ptr 3 0 0),(4,.ptr 4 0 0),(5,.int .i64 i)],qaQ [(1000,qAw bs q),(2,zTr),(3,⟨3,[[.lst 11 (b.map BS.row),.sl 901 0 ops.length,.int .i64 sure]]⟩),(4,⟨1,[qyH b]⟩),(901,qxv ops)],Us.of [1000,1000,2,3,4,901]⟩
def tS (bs:List UInt8) (b:List BS) (sure:Int) (x:Int×Int×List BO):S:=if x.2.2=[] then tN bs b sure x.2.1 x.1 else tC bs b sure x.2.2 x.2.1 x.1
end Go.Av.F
end
