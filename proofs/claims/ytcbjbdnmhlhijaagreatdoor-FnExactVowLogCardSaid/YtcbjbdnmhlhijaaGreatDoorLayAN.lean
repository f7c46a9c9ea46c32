/- Lemmas for the proof, no statement of the seat; no conditions. -/
import Derived.Test.YtcbjbdnmhlhijaaGreatDoorLayAM
import Derived.Test.YtcbjbdnmhlhijaaGreatDoorProg
set_option linter.unusedSimpArgs false
set_option linter.unusedVariables false
set_option linter.unnecessarySimpa false
set_option maxRecDepth 100000
section
namespace Go.Av.F
open Go Go.Av
inductive Rt (bs:List BS):BS→Prop
 | root (s:BS):s.frm=[]→s.kind=1→Rt bs s
 | step (s t:BS):s.frm≠[]→t∈bs→t.name=s.frm→t.kind≠s.kind→Rt bs t→Rt bs s
def Pw (bs:List BS):Prop:=bs.Pairwise fun a b=>Op.bytesLess a.name b.name=true
def Fine (s:BS):Prop:=nameB s.name=true∧1≤s.kind∧s.kind≤2∧∀ t∈s.bl,t.length≤24
def Ok (bs:List BS):Prop:=bs.length≤6∧Pw bs∧∀ s∈bs,Fine s∧Rt bs s
theorem pw_srt {bs:List BS} (h:Pw bs):Srt bs:=fun i j a b hij ha hb=>by
 obtain⟨h1,rfl⟩:=List.getElem?_eq_some_iff.1 ha
 obtain⟨h2,rfl⟩:=List.getElem?_eq_some_iff.1 hb
 exact(List.pairwise_iff_getElem.1 h) i j h1 h2 hij
theorem srt_pw {bs:List BS} (h:Srt bs):Pw bs:=List.pairwise_iff_getElem.2 fun i j h1 h2 hij=>h i j _ _ hij (List.getElem?_eq_getElem h1) (List.getElem?_eq_getElem h2)
theorem at_mem {bs:List BS} (hS:Srt bs) {t:BS} (h:t∈bs):bs[atP bs t.name]?=some t∧atB bs t.name=true:=by
 obtain⟨i,hi,rfl⟩:=List.mem_iff_getElem.1 h
 have:=atP_of hS (List.getElem?_eq_getElem hi)
 exact⟨by rw[this.1];exact List.getElem?_eq_getElem hi,this.2⟩
theorem rt_roots {bs:List BS} (hS:Srt bs) {s:BS} (h:Rt bs s):∃ n,roots bs n s=true:=by
 induction h with
 | root s h1 h2=>exact⟨1,by simp[roots,h1,h2]⟩
 | step s t h1 h2 h3 h4 _ ih =>
  obtain⟨n,hn⟩:=ih
  obtain⟨e1,e2⟩:=at_mem hS h2
  rw[h3]at e1 e2
  exact⟨n+1,by simp[roots,h1,e1,e2,h4,hn]⟩
theorem roots_rt {bs:List BS}:∀ (n:Nat) (s:BS),roots bs n s=true→Rt bs s
 | 0,s,h=>by simp[roots]at h
 | n+1,s,h=>by
  simp only[roots]at h
  split at h
  ·rename_i h1;exact .root s h1 (by simpa using h)
  ·rename_i h1
   split at h
   ·rename_i t ht
    split at h
    ·rename_i h2
     obtain⟨u,hu,hun⟩:=atB_some h2.1
     rw[ht]at hu;injection hu with hu;subst hu
     exact .step s t h1 (List.mem_of_getElem? ht) hun h2.2 (roots_rt n t h)
    ·cases h
   ·cases h
theorem roots_add (bs:List BS):∀ (k:Nat) (s:BS),s∈bs→roots bs (bs.length+k) s=roots bs bs.length s
 | 0,s,hs=>rfl
 | k+1,s,hs=>by
  have h:∀ (k:Nat),∀ s∈bs,roots bs (bs.length+k) s=roots bs (bs.length+k+1) s:=fun k=>by
   induction k with
   | zero=>exact roots_len bs
   | succ k ih=>exact fun s _=>roots_step ih s
  have:=h k s hs
  rw[show bs.length+(k+1)=bs.length+k+1 by omega,← this]
  exact roots_add bs k s hs
theorem roots_any {bs:List BS} {s:BS} (hs:s∈bs) {n:Nat} (h:roots bs n s=true):roots bs (bs.length+1) s=true:=by
 have:∀ k,roots bs (n+k) s=true:=fun k=>by
  induction k with
  | zero=>exact h
  | succ k ih=>exact roots_mono _ _ ih
 have h1:=this bs.length
 rw[Nat.add_comm,roots_add bs n s hs]at h1
 exact roots_mono _ _ h1
theorem okB_iff {bs:List BS}:qbb bs=true↔Ok bs:=by
 constructor
 ·intro h
  simp only[qbb,Bool.and_eq_true,decide_eq_true_eq,List.all_eq_true]at h
  refine⟨h.1.1,srt_pw (okAll_srt h.1.2),fun s hs=>⟨?_,roots_rt _ _ (h.2 s hs)⟩⟩
  obtain⟨i,hi,e⟩:=List.mem_iff_getElem.1 hs
  have:=okAll_at h.1.2 (i:=i) (s:=s) (by rw[← e];exact List.getElem?_eq_getElem hi)
  simp only[okAt,Bool.and_eq_true,decide_eq_true_eq,List.all_eq_true]at this
  exact⟨this.1.1.1.1,this.1.1.2,this.1.2,this.2⟩
 ·rintro⟨h1,h2,h3⟩
  have hS:=pw_srt h2
  simp only[qbb,Bool.and_eq_true,decide_eq_true_eq,List.all_eq_true]
  refine⟨⟨h1,?_⟩,fun s hs=>?_⟩
  ·unfold okAll
   rw[List.all_eq_true]
   intro i hi
   have hil:i<bs.length:=by simpa using hi
   rw[List.getElem?_eq_getElem hil]
   obtain⟨g1,g2,g3,g4⟩:=(h3 _ (List.getElem_mem hil)).1
   simp only[okAt,Bool.and_eq_true,decide_eq_true_eq,List.all_eq_true]
   refine⟨⟨⟨⟨g1,?_⟩,g2⟩,g3⟩,g4⟩
   unfold okPrev
   cases i with
   | zero=>simp
   | succ i =>
    have:i<bs.length:=by omega
    simp only[Nat.add_sub_cancel,List.getElem?_eq_getElem this]
    simp[hS i (i+1) _ _ (by omega) (List.getElem?_eq_getElem this) (List.getElem?_eq_getElem hil)]
  ·obtain⟨n,hn⟩:=rt_roots hS (h3 s hs).2
   exact roots_any hs hn
theorem Rt.map {bs bs':List BS} (hb:∀ u∈bs,∃ u'∈bs',u'.name=u.name∧u'.kind=u.kind∧u'.frm=u.frm) {s:BS} (h:Rt bs s):∀ s':BS,s'.frm=s.frm→s'.kind=s.kind→Rt bs' s':=by
 induction h with
 | root s h1 h2=>exact fun s' e1 e2=>.root s' (e1.trans h1) (e2.trans h2)
 | step s t h1 h2 h3 h4 _ ih =>
  intro s' e1 e2
  obtain⟨u,hu,g1,g2,g3⟩:=hb t h2
  exact .step s' u (by rw[e1];exact h1) hu (by rw[e1,g1];exact h3) (by rw[e2,g2];exact h4) (ih u g3 g2)
end Go.Av.F
end
section
namespace Go.Av.F
open Go Go.Av
open Go.Proofs Go.Proofs.Tryz
attribute [-simp] getU hdS canon qab i64w
structure PT where
 pa:Int
 ps:Int
 pb:Int
deriving DecidableEq,Inhabited
def PT.row (p:PT):List AV:=[.int .i64 p.pa,.int .i64 p.ps,.int .i64 p.pb]
structure CS where
 name:List UInt8
 kind:Int
 frm:List UInt8
 map:List PT
 home:PT
 dirty:Bool
deriving DecidableEq,Inhabited
def CS.row (s:CS):List AV:=.str s.name::.int .i64 s.kind::.str s.frm::(s.map.flatMap PT.row++(s.home.row++[.bool s.dirty]))
structure DE where
 es:Int
 ea:Int
 ec:Int
deriving DecidableEq,Inhabited
def DE.row (e:DE):List AV:=[.int .i64 e.es,.int .i64 e.ea,.int .i64 e.ec]
def qac (n:Int):List AV:=[.int .i64 n]
structure CO where
 txg:Int
 sets:List CS
 ddt:List DE
 parts:List PT
 dirty:Bool
 safe:List Int
 logn:Int
deriving DecidableEq,Inhabited
def CO.row (c:CO):List AV:=[.int .i64 c.txg,.lst 31 (c.sets.map CS.row),.lst 3 (c.ddt.map DE.row),.lst 3 (c.parts.map PT.row),.bool c.dirty,.lst 1 (c.safe.map qac),.int .i64 c.logn]
def i64G (z:Int):Prop:=-9223372036854775808≤z∧z≤9223372036854775807
theorem wf_i64 {z:Int} (h:(Lit.int .i64 z).wf=true):i64G z:=by
 simpa [Lit.wf,IntKind.min,IntKind.max,IntKind.signed,IntKind.bits,i64G]using h
def PtG (p:PT):Prop:=i64G p.pa∧i64G p.ps∧i64G p.pb
def CsG (s:CS):Prop:=i64G s.kind∧s.map.length=8∧(∀ p∈s.map,PtG p)∧PtG s.home∧s.name.length≤maxLen∧s.frm.length≤maxLen
def DeG (e:DE):Prop:=i64G e.es∧i64G e.ea∧i64G e.ec
def CoG (c:CO):Prop:=i64G c.txg∧(∀ s∈c.sets,CsG s)∧(∀ e∈c.ddt,DeG e)∧(∀ p∈c.parts,PtG p)∧(∀ z∈c.safe,i64G z)∧i64G c.logn∧c.sets.length≤maxLen∧c.ddt.length≤maxLen∧c.parts.length≤maxLen∧c.safe.length≤maxLen
theorem rows_ex {α:Type} (f:α→List AV) (G:α→Prop):∀ els:List (List AV),(∀ r∈els,∃ a,G a∧r=f a)→∃ l:List α,els=l.map f∧∀ a∈l,G a
 | [],_=>⟨[],rfl,by simp⟩
 | r::els,h=>by
  obtain⟨a,ha,rfl⟩:=h r (by simp)
  obtain⟨l,rfl,hl⟩:=rows_ex f G els fun x hx=>h x (List.mem_cons_of_mem _ hx)
  refine⟨a::l,rfl,fun x hx=>?_⟩
  rcases List.mem_cons.1 hx with rfl | hx
  ·exact ha
  ·exact hl x hx
theorem arr_ex {α:Type} (f:α→List AV) (G:α→Prop) (S:List AV→Prop) (h:∀ r,S r→∃ a,G a∧r=f a):∀ (k:Nat) (avs:List AV),ShpAs S k avs→∃ l:List α,l.length=k∧avs=l.flatMap f∧∀ a∈l,G a
 | 0,avs,hs=>⟨[],rfl,hs,by simp⟩
 | k+1,avs,hs=>by
  obtain⟨a,b,rfl,ha,hb⟩:=hs
  obtain⟨x,hx,rfl⟩:=h a ha
  obtain⟨l,hl,rfl,hg⟩:=arr_ex f G S h k b hb
  refine⟨x::l,by simp[hl],by simp,fun y hy=>?_⟩
  rcases List.mem_cons.1 hy with rfl | hy
  ·exact hx
  ·exact hg y hy
open Go.Proofs
theorem shp_i64 {n:Nat} {avs:List AV} (h:Shp Tryz.prog (n+1) 3 avs):∃ z,i64G z∧avs=[.int .i64 z]:=by
 obtain⟨z,h1,h2⟩:=shp_int Tryz.underlying3 h
 exact⟨z,wf_i64 h1,h2⟩
theorem pt_shp {n:Nat} {avs:List AV} (h:Shp Tryz.prog (n+2) 187 avs):∃ p:PT,PtG p∧avs=p.row:=by
 obtain⟨a1,b1,rfl,h1,a2,b2,rfl,h2,a3,b3,rfl,h3,rfl⟩:=shp_struct Tryz.underlying187 h
 obtain⟨z1,g1,rfl⟩:=shp_i64 h1
 obtain⟨z2,g2,rfl⟩:=shp_i64 h2
 obtain⟨z3,g3,rfl⟩:=shp_i64 h3
 exact⟨⟨z1,z2,z3⟩,⟨g1,g2,g3⟩,rfl⟩
theorem de_shp {n:Nat} {avs:List AV} (h:Shp Tryz.prog (n+2) 212 avs):∃ p:DE,DeG p∧avs=p.row:=by
 obtain⟨a1,b1,rfl,h1,a2,b2,rfl,h2,a3,b3,rfl,h3,rfl⟩:=shp_struct Tryz.underlying212 h
 obtain⟨z1,g1,rfl⟩:=shp_i64 h1
 obtain⟨z2,g2,rfl⟩:=shp_i64 h2
 obtain⟨z3,g3,rfl⟩:=shp_i64 h3
 exact⟨⟨z1,z2,z3⟩,⟨g1,g2,g3⟩,rfl⟩
theorem cs_shp {n:Nat} {avs:List AV} (h:Shp Tryz.prog (n+4) 190 avs):∃ s:CS,CsG s∧avs=s.row:=by
 obtain⟨a1,b1,rfl,h1,a2,b2,rfl,h2,a3,b3,rfl,h3,a4,b4,rfl,h4,a5,b5,rfl,h5,a6,b6,rfl,h6,rfl⟩:=shp_struct Tryz.underlying190 h
 obtain⟨s1,m1,rfl⟩:=shp_string Tryz.underlying9 h1
 obtain⟨z2,g2,rfl⟩:=shp_i64 h2
 obtain⟨s3,m3,rfl⟩:=shp_string Tryz.underlying9 h3
 obtain⟨l,hl,rfl,hg⟩:=arr_ex PT.row PtG _ (fun r hr=>pt_shp hr) 8 a4 (shp_array Tryz.underlying188 h4)
 obtain⟨hm,gm,rfl⟩:=pt_shp h5
 obtain⟨d,rfl⟩:=shp_bool Tryz.underlying4 h6
 exact⟨⟨s1,z2,s3,l,hm,d⟩,⟨g2,hl,hg,gm,m1,m3⟩,by simp[CS.row]⟩
theorem core_shp {n:Nat} {avs:List AV} (h:Shp Tryz.prog (n+6) 32 avs):∃ c:CO,CoG c∧avs=c.row:=by
 obtain⟨a1,b1,rfl,h1,a2,b2,rfl,h2,a3,b3,rfl,h3,a4,b4,rfl,h4,a5,b5,rfl,h5,a6,b6,rfl,h6,a7,b7,rfl,h7,rfl⟩:=shp_struct Tryz.underlying32 h
 obtain⟨z1,g1,rfl⟩:=shp_i64 h1
 obtain⟨e2,m2,rfl,k2⟩:=shp_slice Tryz.underlying27 h2
 obtain⟨l2,rfl,g2⟩:=rows_ex CS.row CsG e2 fun r hr=>cs_shp (k2 r hr)
 obtain⟨e3,m3,rfl,k3⟩:=shp_slice Tryz.underlying28 h3
 obtain⟨l3,rfl,g3⟩:=rows_ex DE.row DeG e3 fun r hr=>de_shp (k3 r hr)
 obtain⟨e4,m4,rfl,k4⟩:=shp_slice Tryz.underlying29 h4
 obtain⟨l4,rfl,g4⟩:=rows_ex PT.row PtG e4 fun r hr=>pt_shp (k4 r hr)
 obtain⟨d,rfl⟩:=shp_bool Tryz.underlying4 h5
 obtain⟨e6,m6,rfl,k6⟩:=shp_slice Tryz.underlying30 h6
 obtain⟨l6,rfl,g6⟩:=rows_ex qac i64G e6 fun r hr=>shp_i64 (k6 r hr)
 obtain⟨z7,g7,rfl⟩:=shp_i64 h7
 have c1:Tryz.prog.cellsOf 190=31:=by kernel_rfl
 have c2:Tryz.prog.cellsOf 212=3:=by kernel_rfl
 have c3:Tryz.prog.cellsOf 187=3:=by kernel_rfl
 have c4:Tryz.prog.cellsOf 3=1:=by kernel_rfl
 refine⟨⟨z1,l2,l3,l4,d,l6,z7⟩,⟨g1,g2,g3,g4,g6,g7,by simpa using m2,by simpa using m3,by simpa using m4,by simpa using m6⟩,?_⟩
 rw[c1,c2,c3,c4]
 rfl
end Go.Av.F
end
section
namespace Go.Av.F
open Go Go.Av
open Go.Proofs Go.Proofs.Tryz
attribute [-simp] getU hdS canon qab i64w
attribute [local simp] tt3 tt4 tt9 tt27 tt28 tt29 tt30 tt32 tt190 tt212 tt187 tt188
theorem maxLen_eq:maxLen=9223372036854775807:=by decide
def szR (left:Int) (G:Prop) (r:AV):Prop:=∃ z:Int,r=.int .i64 z∧-1≤z∧z≤left∧(0≤z→G)
theorem szDdtC (l:List DE) (left:Int) (hl:l.length≤maxLen) (h0:0≤left∧left≤1048576):ACall Go.Proofs.Tryz.prog 65 [.lst 3 (l.map DE.row),.int .i64 left] [] (fun r L'=>szR left ((l.length:Int)≤left) r∧clA r=true∧L'=[]):=by
 rw[maxLen_eq]at hl
 have e1:IntKind.i64.wrap (left-l.length)=left-l.length:=qaq _ (by omega)
 refine acx func65 [] ntmps65 rfl rfl rfl ?_
 simp[e1]
 by_cases h:left<l.length
 ·have h':left-(l.length:Int)<0:=by omega
  simp[h,h',szR]
  omega
 ·have h':¬ left-(l.length:Int)<0:=by omega
  simp[h,h',szR]
  omega
theorem szPtrC (l:List PT) (left:Int) (hl:l.length≤maxLen) (h0:0≤left∧left≤1048576):ACall Go.Proofs.Tryz.prog 66 [.lst 3 (l.map PT.row),.int .i64 left] [] (fun r L'=>szR left ((l.length:Int)≤left) r∧clA r=true∧L'=[]):=by
 rw[maxLen_eq]at hl
 have e1:IntKind.i64.wrap (left-l.length)=left-l.length:=qaq _ (by omega)
 refine acx func66 [] ntmps66 rfl rfl rfl ?_
 simp[e1]
 by_cases h:left<l.length
 ·have h':left-(l.length:Int)<0:=by omega
  simp[h,h',szR]
  omega
 ·have h':¬ left-(l.length:Int)<0:=by omega
  simp[h,h',szR]
  omega
theorem szIntC (l:List Int) (left:Int) (hl:l.length≤maxLen) (h0:0≤left∧left≤1048576):ACall Go.Proofs.Tryz.prog 67 [.lst 1 (l.map qac),.int .i64 left] [] (fun r L'=>szR left ((l.length:Int)≤left) r∧clA r=true∧L'=[]):=by
 rw[maxLen_eq]at hl
 have e1:IntKind.i64.wrap (left-l.length)=left-l.length:=qaq _ (by omega)
 refine acx func67 [] ntmps67 rfl rfl rfl ?_
 simp[e1]
 by_cases h:left<l.length
 ·have h':left-(l.length:Int)<0:=by omega
  simp[h,h',szR]
  omega
 ·have h':¬ left-(l.length:Int)<0:=by omega
  simp[h,h',szR]
  omega
def CsS (s:CS) (n:Int):Prop:=(s.name.length:Int)≤n∧(s.frm.length:Int)≤n
theorem flat3:∀ (l:List PT),(l.flatMap PT.row).length=3 * l.length
 | []=>rfl
 | a::r=>by simp only[List.flatMap_cons,List.length_append,flat3 r,List.length_cons];simp only[PT.row,List.length_cons,List.length_nil];omega
theorem qbf (s:CS) (h:s.map.length=8):s.row.length=31:=by
 simp only[CS.row,List.length_cons,List.length_append,flat3,h,PT.row,List.length_nil]
theorem cs_take (s:CS) (h:s.map.length=8):s.row.take 31=s.row:=List.take_of_length_le (by rw[qbf s h];omega)
theorem oneA_cs (s:CS):∀ x∈s.row,oneA x=true:=fun y hy=>by
 simp only[CS.row,List.mem_cons,List.mem_append,List.mem_flatMap,PT.row,List.not_mem_nil,or_false]at hy
 rcases hy with rfl | rfl | rfl | ⟨p,_,rfl | rfl | rfl⟩ | (rfl | rfl | rfl) | rfl <;> rfl
theorem clL_app:∀ {a b:List AV},clL a=true→clL b=true→clL (a++b)=true
 | [],_,_,h=>h
 | x::a,b,h1,h2=>by
  simp only[clL,List.cons_append,Bool.and_eq_true]at h1 ⊢
  exact⟨h1.1,clL_app h1.2 h2⟩
theorem clL_pts:∀ l:List PT,clL (l.flatMap PT.row)=true
 | []=>rfl
 | a::r=>by
  rw[List.flatMap_cons]
  exact clL_app (by simp[PT.row,clL,clA]) (clL_pts r)
theorem cs_cl (s:CS):clL s.row=true:=by
 simp only[CS.row,clL,clA,Bool.true_and]
 exact clL_app (clL_pts _) (by simp[PT.row,clL,clA])
theorem szCsC (s:CS) (left:Int) (hg:CsG s) (h0:0≤left∧left≤1048576):ACall Go.Proofs.Tryz.prog 142 [.agg s.row,.int .i64 left] [] (fun r L'=>szR left (CsS s left) r∧clA r=true∧L'=[]):=by
 obtain⟨_,h8,_,_,hn,hf⟩:=hg
 rw[maxLen_eq]at hn hf
 have hl:=qbf s h8
 have e1:IntKind.i64.wrap (left-s.name.length)=left-s.name.length:=qaq _ (by omega)
 have g0:(CS.row s)[0]?=some (.str s.name):=rfl
 have g2:(CS.row s)[2]?=some (.str s.frm):=rfl
 refine acx func142 [] ntmps142 rfl rfl rfl ?_
 have q0:(CS.row s)[0]'(by omega)=.str s.name:=rfl
 have q2:(CS.row s)[2]'(by omega)=.str s.frm:=rfl
 simp[hl,oneA_cs s,g0,g2,q0,q2,e1]
 by_cases h:left<s.name.length
 ·have h':left-(s.name.length:Int)<0:=by omega
  simp[h,h',szR]
  omega
 ·have h':¬ left-(s.name.length:Int)<0:=by omega
  have e2:IntKind.i64.wrap (left-s.name.length-s.frm.length)=left-s.name.length-s.frm.length:=qaq _ (by omega)
  by_cases k:left-(s.name.length:Int)<s.frm.length
  ·have k':left-(s.name.length:Int)-s.frm.length<0:=by omega
   simp[h,h',k,k',e2,szR]
   omega
  ·have k':¬ left-(s.name.length:Int)-s.frm.length<0:=by omega
   simp[h,h',k,k',e2,szR,CsS]
   omega
theorem szSetsC (l:List CS) (left:Int) (hg:∀ s∈l,CsG s) (hl:l.length≤maxLen) (h0:0≤left∧left≤1048576) :
  ACall Go.Proofs.Tryz.prog 64 [.lst 31 (l.map CS.row),.int .i64 left] [] (fun r L'=>szR left ((l.length:Int)≤left∧∀ s∈l,CsS s left) r∧clA r=true∧L'=[]):=by
 rw[maxLen_eq]at hl
 have e1:IntKind.i64.wrap (left-l.length)=left-l.length:=qaq _ (by omega)
 refine acx func64 [] ntmps64 rfl rfl rfl ?_
 simp[e1]
 by_cases h:left<l.length
 ·have h':left-(l.length:Int)<0:=by omega
  simp[h,h',szR]
  omega
 ·have h':¬ left-(l.length:Int)<0:=by omega
  simp[h,h']
  intro hle
  refine qat (X:=Nat×Int) [0,1,5] (fun x=>⟨mkT [(0,.lst 31 (l.map CS.row)),(1,.int .i64 x.2),(5,.int .i64 x.1)],hpOf [],Us.of []⟩) (fun x=>l.length-x.1) (fun x=>x.1≤l.length∧0≤x.2∧x.2≤left∧∀ s∈l.take x.1,CsS s left) (0,left-l.length) ⟨⟨by simp,by simp only;omega,by simp only;omega,by simp⟩,[],by simp[qab],by simp[canon]⟩ ?_
  rintro⟨i,z⟩ ⟨hi,z0,zl,ha⟩
  simp only at hi z0 zl ha
  by_cases h1:i<l.length
  ·obtain⟨s,e0⟩:∃ s,l[i]=s:=⟨_,rfl⟩
   have e1:l[i]?=some s:=by rw[← e0];exact List.getElem?_eq_getElem h1
   have e2:IntKind.i64.wrap ((i:Int)+1)=((i+1:Nat):Int):=by rw[qaq _ (by omega)];omega
   have hs:=hg s (List.mem_of_getElem? e1)
   simp[h1,e0,e1,qbf s hs.2.1,cs_take s hs.2.1]
   refine callA_ex (by kernel_rfl) (szCsC s z hs (by omega)) (by simp[cs_cl]) ?_
   rintro r ⟨y,rfl,y1,y2,y3⟩
   by_cases hy:y<0
   ·simp[hy,szR]
    omega
   ·simp[hy,e2]
    refine qak (i+1,y) (by simp only;omega) ⟨by simp only;omega,by simp only;omega,by simp only;omega,fun x hx=>?_⟩ [] (by simp[qab]) (by simp[canon])
    simp only at hx
    rw[List.take_add_one,e1]at hx
    rcases List.mem_append.1 hx with hx | hx
    ·exact ha x hx
    ·simp at hx;subst hx
     have:=y3 (by omega)
     exact⟨by have:=this.1;omega,by have:=this.2;omega⟩
  ·have hie:i=l.length:=by omega
   subst hie
   rw[List.take_length]at ha
   simp
   exact⟨z,rfl,by omega,zl,fun _=>⟨by omega,ha⟩⟩
def CoS (c:CO):Prop:=c.sets.length≤1048576∧c.ddt.length≤1048576∧c.parts.length≤1048576∧c.safe.length≤1048576∧∀ s∈c.sets,s.name.length≤1048576∧s.frm.length≤1048576
end Go.Av.F
end
section
namespace Go.Av.F
open Go Go.Av
open Go.Proofs Go.Proofs.Tryz
attribute [-simp] getU hdS canon qab i64w
attribute [local simp] tt3 tt4 tt9 tt27 tt28 tt29 tt30 tt32 tt190 tt212 tt187 tt188 tt44 tt90 tt43 tt97
theorem toPtrC (p:PT):ACall Go.Proofs.Tryz.prog 166 [.agg p.row] [] (fun r L'=>r=.agg p.row∧L'=[]):=by
 refine acx func166 [] ntmps166 rfl rfl rfl ?_
 simp[PT.row]
theorem toDdtC (p:DE):ACall Go.Proofs.Tryz.prog 165 [.agg p.row] [] (fun r L'=>r=.agg p.row∧L'=[]):=by
 refine acx func165 [] ntmps165 rfl rfl rfl ?_
 simp[DE.row]
def fillB (l:List (List AV)) (z:List AV) (i:Nat):List (List AV):=l.take i++List.replicate (l.length-i) z
theorem fill_len (l:List (List AV)) (z:List AV) (i:Nat) (h:i≤l.length):(fillB l z i).length=l.length:=by simp[fillB];omega
theorem fill_zero (l:List (List AV)) (z:List AV):fillB l z 0=List.replicate l.length z:=by simp[fillB]
theorem fill_all (l:List (List AV)) (z:List AV):fillB l z l.length=l:=by simp[fillB]
theorem fill_set {l:List (List AV)} {z x:List AV} {i:Nat} (h:l[i]?=some x):(fillB l z i).set i x=fillB l z (i+1):=by
 obtain⟨hi,rfl⟩:=List.getElem?_eq_some_iff.1 h
 apply List.ext_getElem?
 intro j
 unfold fillB
 rw[List.getElem?_set]
 have hl:(l.take i).length=i:=by simp;omega
 have hl1:(l.take (i+1)).length=i+1:=by simp;omega
 split
 ·rename_i e;subst e
  rw[if_pos (by simp;omega),List.getElem?_append_left (by omega),List.getElem?_take_of_lt (by omega),h]
 ·rename_i e
  rcases Nat.lt_trichotomy j i with hj | hj | hj
  ·rw[List.getElem?_append_left (by omega),List.getElem?_append_left (by omega),List.getElem?_take_of_lt hj,List.getElem?_take_of_lt (by omega)]
  ·exact absurd hj.symm e
  ·rw[List.getElem?_append_right (by omega),List.getElem?_append_right (by omega),List.getElem?_replicate,List.getElem?_replicate,hl,hl1]
   by_cases k:j<l.length
   ·rw[if_pos (by omega),if_pos (by omega)]
   ·rw[if_neg (by omega),if_neg (by omega)]
theorem fill_get (l:List (List AV)) (z:List AV) (i:Nat) (h:i<l.length):(fillB l z i)[i]?=some z:=by
 unfold fillB
 rw[List.getElem?_append_right (by simp;omega),List.getElem?_replicate,if_pos (by simp;omega)]
theorem clR_fill {l:List (List AV)} {z:List AV} (i:Nat) (h1:clR l=true) (h2:clL z=true):clR (fillB l z i)=true:=by
 refine clR_app (clR_take _ h1) ?_
 simp only[clR,List.all_eq_true]
 intro x hx
 obtain⟨_,rfl⟩:=List.mem_replicate.1 hx
 exact h2
theorem clR_map {α:Type} (f:α→List AV) (h:∀ a,clL (f a)=true) (l:List α):clR (l.map f)=true:=by
 unfold clR
 rw[List.all_map,List.all_eq_true]
 intro b _
 exact h b
def zPt:List AV:=[.int .i64 0,.int .i64 0,.int .i64 0]
def tpSt (l:List PT) (i:Nat):S:=⟨mkT [(0,.lst 3 (l.map PT.row)),(3,.sl 7 0 l.length),(4,.int .i64 i)],hpOf [(7,⟨3,fillB (l.map PT.row) zPt i⟩)],Us.of [7]⟩
theorem toPtrSC (l:List PT) (hl:l.length≤1048576):ACall Go.Proofs.Tryz.prog 81 [.lst 3 (l.map PT.row)] [] (fun r L'=>r=.sl 7 0 l.length∧L'=[(7,⟨3,l.map PT.row⟩)]):=by
 refine acx func81 [] ntmps81 rfl rfl rfl ?_
 simp
 refine⟨by omega,?_⟩
 refine qat (X:=Nat) [0,3,4] (tpSt l) (fun i=>l.length-i) (fun i=>i≤l.length) 0 ⟨by simp,[(7,7)],by simp[qab],by simp[canon,obOf,tpSt,fill_zero,zPt]⟩ ?_
 intro i hi
 by_cases h1:i<l.length
 ·obtain⟨x,e0⟩:∃ x,l[i]=x:=⟨_,rfl⟩
  have e1:l[i]?=some x:=by rw[← e0];exact List.getElem?_eq_getElem h1
  have e2:IntKind.i64.wrap ((i:Int)+1)=((i+1:Nat):Int):=by rw[qaq _ (by omega)];omega
  have hfl:=fill_len (l.map PT.row) zPt i (by simp;omega)
  have hfg:=fill_get (l.map PT.row) zPt i (by simpa using h1)
  have hfs:=fill_set (l:=l.map PT.row) (z:=zPt) (x:=x.row) (i:=i) (by simp[e1])
  have hx:x.row.length=3:=rfl
  have hx2:x.row.take 3=x.row:=rfl
  simp[tpSt,h1,e0,e1,hx,hx2]
  refine qae (by kernel_rfl) (toPtrC x) (by simp[PT.row]) (by simp[PT.row]) ?_
  have hcl:clR (l.map PT.row)=true:=clR_map PT.row (fun a=>by simp[PT.row,clL,clA]) l
  have hren:∀ ρ,(fillB (l.map PT.row) zPt (i+1)).map (renL ρ)=fillB (l.map PT.row) zPt (i+1):=fun ρ=>map_cl ρ (clR_fill (i+1) hcl (by simp[zPt]))
  have hg0:(fillB (l.map PT.row) zPt i)[i]'(by rw[hfl];simpa using h1)=zPt:=(List.getElem?_eq_some_iff.1 hfg).2
  have hd:x.row++List.drop x.row.length zPt=x.row:=by simp[hx,zPt]
  simp[hfl,hfg,h1]
  refine⟨⟨rfl,fun y hy=>by simp only[PT.row,List.mem_cons,List.not_mem_nil,or_false]at hy;rcases hy with rfl | rfl | rfl <;> rfl⟩,?_⟩
  rw[hg0,hd,hfs]
  exact qak (i+1) (by omega) (by omega) [(7,7)] (by simp[qab]) (by simp[canon,obOf,tpSt,e2,hren])
 ·have:i=l.length:=by omega
  subst this
  have:=fill_all (l.map PT.row) zPt
  simp at this
  simp[tpSt,this]
def tdSt (l:List DE) (i:Nat):S:=⟨mkT [(0,.lst 3 (l.map DE.row)),(3,.sl 7 0 l.length),(4,.int .i64 i)],hpOf [(7,⟨3,fillB (l.map DE.row) zPt i⟩)],Us.of [7]⟩
theorem toDdtSC (l:List DE) (hl:l.length≤1048576):ACall Go.Proofs.Tryz.prog 80 [.lst 3 (l.map DE.row)] [] (fun r L'=>r=.sl 7 0 l.length∧L'=[(7,⟨3,l.map DE.row⟩)]):=by
 refine acx func80 [] ntmps80 rfl rfl rfl ?_
 simp
 refine⟨by omega,?_⟩
 refine qat (X:=Nat) [0,3,4] (tdSt l) (fun i=>l.length-i) (fun i=>i≤l.length) 0 ⟨by simp,[(7,7)],by simp[qab],by simp[canon,obOf,tdSt,fill_zero,zPt]⟩ ?_
 intro i hi
 by_cases h1:i<l.length
 ·obtain⟨x,e0⟩:∃ x,l[i]=x:=⟨_,rfl⟩
  have e1:l[i]?=some x:=by rw[← e0];exact List.getElem?_eq_getElem h1
  have e2:IntKind.i64.wrap ((i:Int)+1)=((i+1:Nat):Int):=by rw[qaq _ (by omega)];omega
  have hfl:=fill_len (l.map DE.row) zPt i (by simp;omega)
  have hfg:=fill_get (l.map DE.row) zPt i (by simpa using h1)
  have hfs:=fill_set (l:=l.map DE.row) (z:=zPt) (x:=x.row) (i:=i) (by simp[e1])
  have hx:x.row.length=3:=rfl
  have hx2:x.row.take 3=x.row:=rfl
  simp[tdSt,h1,e0,e1,hx,hx2]
  refine qae (by kernel_rfl) (toDdtC x) (by simp[DE.row]) (by simp[DE.row]) ?_
  have hcl:clR (l.map DE.row)=true:=clR_map DE.row (fun a=>by simp[DE.row,clL,clA]) l
  have hren:∀ ρ,(fillB (l.map DE.row) zPt (i+1)).map (renL ρ)=fillB (l.map DE.row) zPt (i+1):=fun ρ=>map_cl ρ (clR_fill (i+1) hcl (by simp[zPt]))
  have hg0:(fillB (l.map DE.row) zPt i)[i]'(by rw[hfl];simpa using h1)=zPt:=(List.getElem?_eq_some_iff.1 hfg).2
  have hd:x.row++List.drop x.row.length zPt=x.row:=by simp[hx,zPt]
  simp[hfl,hfg,h1]
  refine⟨⟨rfl,fun y hy=>by simp only[DE.row,List.mem_cons,List.not_mem_nil,or_false]at hy;rcases hy with rfl | rfl | rfl <;> rfl⟩,?_⟩
  rw[hg0,hd,hfs]
  exact qak (i+1) (by omega) (by omega) [(7,7)] (by simp[qab]) (by simp[canon,obOf,tdSt,e2,hren])
 ·have:i=l.length:=by omega
  subst this
  have:=fill_all (l.map DE.row) zPt
  simp at this
  simp[tdSt,this]
def zInt:List AV:=[.int .i64 0]
def tiSt (l:List Int) (i:Nat):S:=⟨mkT [(0,.lst 1 (l.map qac)),(3,.sl 7 0 l.length),(4,.int .i64 i)],hpOf [(7,⟨1,fillB (l.map qac) zInt i⟩)],Us.of [7]⟩
theorem toIntSC (l:List Int) (hl:l.length≤1048576):ACall Go.Proofs.Tryz.prog 18 [.lst 1 (l.map qac)] [] (fun r L'=>r=.sl 7 0 l.length∧L'=[(7,⟨1,l.map qac⟩)]):=by
 refine acx func18 [] ntmps18 rfl rfl rfl ?_
 simp
 refine⟨by omega,?_⟩
 refine qat (X:=Nat) [0,3,4] (tiSt l) (fun i=>l.length-i) (fun i=>i≤l.length) 0 ⟨by simp,[(7,7)],by simp[qab],by simp[canon,obOf,tiSt,fill_zero,zInt]⟩ ?_
 intro i hi
 by_cases h1:i<l.length
 ·obtain⟨x,e0⟩:∃ x,l[i]=x:=⟨_,rfl⟩
  have e1:l[i]?=some x:=by rw[← e0];exact List.getElem?_eq_getElem h1
  have e2:IntKind.i64.wrap ((i:Int)+1)=((i+1:Nat):Int):=by rw[qaq _ (by omega)];omega
  have hfl:=fill_len (l.map qac) zInt i (by simp;omega)
  have hfg:=fill_get (l.map qac) zInt i (by simpa using h1)
  have hfs:=fill_set (l:=l.map qac) (z:=zInt) (x:=qac x) (i:=i) (by simp[e1])
  have hx:(qac x).length=1:=rfl
  have hx2:qac x=[.int .i64 x]:=rfl
  have hcl:clR (l.map qac)=true:=clR_map qac (fun a=>by simp[qac,clL,clA]) l
  have hren:∀ ρ,(fillB (l.map qac) zInt (i+1)).map (renL ρ)=fillB (l.map qac) zInt (i+1):=fun ρ=>map_cl ρ (clR_fill (i+1) hcl (by simp[zInt]))
  have hg0:(fillB (l.map qac) zInt i)[i]'(by rw[hfl];simpa using h1)=zInt:=(List.getElem?_eq_some_iff.1 hfg).2
  have hzt:zInt.tail=[]:=rfl
  have hzl:zInt.length=1:=rfl
  have hfl':(fillB (l.map qac) zInt i).length=l.length:=by rw[hfl];simp
  rw[hx2]at hfs
  simp[tiSt,h1,e0,e1,hx,hx2,hfl',hfg,hg0,hzt,hzl,hfs]
  exact qak (i+1) (by omega) (by omega) [(7,7)] (by simp[qab]) (by simp[canon,obOf,tiSt,e2,hren])
 ·have:i=l.length:=by omega
  subst this
  have:=fill_all (l.map qac) zInt
  simp at this
  simp[tiSt,this]
end Go.Av.F
end
section
namespace Go.Av.F
open Go Go.Av
open Go.Proofs Go.Proofs.Tryz
attribute [-simp] getU hdS canon qab i64w
attribute [local simp] tt93 tt42 tt46
attribute [local simp] tt3 tt4 tt9 tt27 tt28 tt29 tt30 tt32 tt190 tt212 tt187 tt188 tt44 tt90 tt43 tt97 tt91
def a8St (l:List PT) (i:Nat):S :=
 ⟨mkT [(1,.ptr 1 0 0),(2,.ptr 2 0 0),(3,.ptr 3 0 0),(4,.int .i64 i)],hpOf [(1,⟨24,[l.flatMap PT.row]⟩),(2,⟨24,[List.replicate 24 (.int .i64 0)]⟩),(3,⟨24,[(l.take i).flatMap PT.row++List.replicate (24-3 * i) (.int .i64 0)]⟩)],Us.of [1,2,3]⟩
theorem toA8C (p0 p1 p2 p3 p4 p5 p6 p7:PT):ACall Go.Proofs.Tryz.prog 271 [.agg ([p0,p1,p2,p3,p4,p5,p6,p7].flatMap PT.row)] [] (fun r L'=>r=.agg ([p0,p1,p2,p3,p4,p5,p6,p7].flatMap PT.row)∧L'=[]):=by
 refine acx func271 [] ntmps271 rfl rfl rfl ?_
 simp[PT.row]
 refine qat (X:=Nat) [1,2,3,4] (a8St [p0,p1,p2,p3,p4,p5,p6,p7]) (fun i=>8-i) (fun i=>i≤8) 0 ⟨by simp,[(1,1),(2,2),(3,3)],by simp[qab],by simp[canon,obOf,a8St,PT.row]⟩ ?_
 intro i hi
 have hw:∀ k:Nat,k≤8→IntKind.i64.wrap ((k:Int)+1)=(k:Int)+1:=fun k hk=>qaq _ (by omega)
 have hc:i=0∨i=1∨i=2∨i=3∨i=4∨i=5∨i=6∨i=7∨i=8:=by omega
 rcases hc with rfl | rfl | rfl | rfl | rfl | rfl | rfl | rfl | rfl
 ·simp[a8St,PT.row]
  refine qae (by kernel_rfl) (toPtrC p0) (by simp[PT.row]) (by simp[PT.row]) ?_
  simp[PT.row]
  have w1:IntKind.i64.wrap 1=1:=by decide
  exact qak 1 (by omega) (by omega) [(1,1),(2,2),(3,3)] (by simp[qab]) (by simp[canon,obOf,a8St,PT.row,w1])
 ·simp[a8St,PT.row]
  refine qae (by kernel_rfl) (toPtrC p1) (by simp[PT.row]) (by simp[PT.row]) ?_
  simp[PT.row]
  have w2:IntKind.i64.wrap 2=2:=by decide
  exact qak 2 (by omega) (by omega) [(1,1),(2,2),(3,3)] (by simp[qab]) (by simp[canon,obOf,a8St,PT.row,w2])
 ·simp[a8St,PT.row]
  refine qae (by kernel_rfl) (toPtrC p2) (by simp[PT.row]) (by simp[PT.row]) ?_
  simp[PT.row]
  have w3:IntKind.i64.wrap 3=3:=by decide
  exact qak 3 (by omega) (by omega) [(1,1),(2,2),(3,3)] (by simp[qab]) (by simp[canon,obOf,a8St,PT.row,w3])
 ·simp[a8St,PT.row]
  refine qae (by kernel_rfl) (toPtrC p3) (by simp[PT.row]) (by simp[PT.row]) ?_
  simp[PT.row]
  have w4:IntKind.i64.wrap 4=4:=by decide
  exact qak 4 (by omega) (by omega) [(1,1),(2,2),(3,3)] (by simp[qab]) (by simp[canon,obOf,a8St,PT.row,w4])
 ·simp[a8St,PT.row]
  refine qae (by kernel_rfl) (toPtrC p4) (by simp[PT.row]) (by simp[PT.row]) ?_
  simp[PT.row]
  have w5:IntKind.i64.wrap 5=5:=by decide
  exact qak 5 (by omega) (by omega) [(1,1),(2,2),(3,3)] (by simp[qab]) (by simp[canon,obOf,a8St,PT.row,w5])
 ·simp[a8St,PT.row]
  refine qae (by kernel_rfl) (toPtrC p5) (by simp[PT.row]) (by simp[PT.row]) ?_
  simp[PT.row]
  have w6:IntKind.i64.wrap 6=6:=by decide
  exact qak 6 (by omega) (by omega) [(1,1),(2,2),(3,3)] (by simp[qab]) (by simp[canon,obOf,a8St,PT.row,w6])
 ·simp[a8St,PT.row]
  refine qae (by kernel_rfl) (toPtrC p6) (by simp[PT.row]) (by simp[PT.row]) ?_
  simp[PT.row]
  have w7:IntKind.i64.wrap 7=7:=by decide
  exact qak 7 (by omega) (by omega) [(1,1),(2,2),(3,3)] (by simp[qab]) (by simp[canon,obOf,a8St,PT.row,w7])
 ·simp[a8St,PT.row]
  refine qae (by kernel_rfl) (toPtrC p7) (by simp[PT.row]) (by simp[PT.row]) ?_
  simp[PT.row]
  have w8:IntKind.i64.wrap 8=8:=by decide
  exact qak 8 (by omega) (by omega) [(1,1),(2,2),(3,3)] (by simp[qab]) (by simp[canon,obOf,a8St,PT.row,w8])
 ·simp[a8St,PT.row]
theorem eight (l:List PT) (h:l.length=8):∃ p0 p1 p2 p3 p4 p5 p6 p7,l=[p0,p1,p2,p3,p4,p5,p6,p7]:=by
 match l,h with
 | [a,b,c,d,e,f,g,i],_=>exact⟨a,b,c,d,e,f,g,i,rfl⟩
theorem toCsC (s:CS) (h8:s.map.length=8):ACall Go.Proofs.Tryz.prog 164 [.agg s.row] [] (fun r L'=>r=.agg s.row∧L'=[]):=by
 obtain⟨nm,kd,fr,mp,hm,dt⟩:=s
 simp only at h8
 obtain⟨p0,p1,p2,p3,p4,p5,p6,p7,rfl⟩:=eight mp h8
 refine acx func164 [] ntmps164 rfl rfl rfl ?_
 simp[CS.row,PT.row]
 refine qae (by kernel_rfl) (toA8C p0 p1 p2 p3 p4 p5 p6 p7) (by simp[PT.row]) (by simp[PT.row]) ?_
 simp[PT.row]
 refine qae (by kernel_rfl) (toPtrC hm) (by simp[PT.row]) (by simp[PT.row]) ?_
 simp[PT.row]
def zCs:List AV:=.str []::.int .i64 0::.str []::(List.replicate 27 (.int .i64 0)++[.bool false])
theorem zCs_cl:clL zCs=true:=by decide
def tsSt (l:List CS) (i:Nat):S:=⟨mkT [(0,.lst 31 (l.map CS.row)),(3,.sl 7 0 l.length),(4,.int .i64 i)],hpOf [(7,⟨31,fillB (l.map CS.row) zCs i⟩)],Us.of [7]⟩
theorem toCsSC (l:List CS) (hl:l.length≤1048576) (h8:∀ s∈l,s.map.length=8):ACall Go.Proofs.Tryz.prog 79 [.lst 31 (l.map CS.row)] [] (fun r L'=>r=.sl 7 0 l.length∧L'=[(7,⟨31,l.map CS.row⟩)]):=by
 refine acx func79 [] ntmps79 rfl rfl rfl ?_
 simp
 refine⟨by omega,?_⟩
 refine qat (X:=Nat) [0,3,4] (tsSt l) (fun i=>l.length-i) (fun i=>i≤l.length) 0 ⟨by simp,[(7,7)],by simp[qab],by simp[canon,obOf,tsSt,fill_zero,zCs]⟩ ?_
 intro i hi
 by_cases h1:i<l.length
 ·obtain⟨x,e0⟩:∃ x,l[i]=x:=⟨_,rfl⟩
  have e1:l[i]?=some x:=by rw[← e0];exact List.getElem?_eq_getElem h1
  have e2:IntKind.i64.wrap ((i:Int)+1)=((i+1:Nat):Int):=by rw[qaq _ (by omega)];omega
  have hfl:=fill_len (l.map CS.row) zCs i (by simp;omega)
  have hfg:=fill_get (l.map CS.row) zCs i (by simpa using h1)
  have hfs:=fill_set (l:=l.map CS.row) (z:=zCs) (x:=x.row) (i:=i) (by simp[e1])
  have hx8:=h8 x (List.mem_of_getElem? e1)
  have hx:x.row.length=31:=qbf x hx8
  have hx2:x.row.take 31=x.row:=cs_take x hx8
  simp[tsSt,h1,e0,e1,hx,hx2]
  refine qae (by kernel_rfl) (toCsC x hx8) (by simp[cs_cl]) (by simp[cs_cl]) ?_
  have hcl:clR (l.map CS.row)=true:=clR_map CS.row cs_cl l
  have hren:∀ ρ,(fillB (l.map CS.row) zCs (i+1)).map (renL ρ)=fillB (l.map CS.row) zCs (i+1):=fun ρ=>map_cl ρ (clR_fill (i+1) hcl zCs_cl)
  have hg0:(fillB (l.map CS.row) zCs i)[i]'(by rw[hfl];simpa using h1)=zCs:=(List.getElem?_eq_some_iff.1 hfg).2
  have hd:x.row++List.drop x.row.length zCs=x.row:=by simp[hx,zCs]
  simp[hfl,hfg,h1]
  refine⟨⟨hx,oneA_cs x⟩,?_⟩
  rw[hg0,hd,hfs]
  exact qak (i+1) (by omega) (by omega) [(7,7)] (by simp[qab]) (by simp[canon,obOf,tsSt,e2,hren])
 ·have:i=l.length:=by omega
  subst this
  have:=fill_all (l.map CS.row) zCs
  simp at this
  simp[tsSt,this]
theorem pt_cl (p:PT):clL p.row=true:=by simp[PT.row,clL,clA]
theorem de_cl (p:DE):clL p.row=true:=by simp[DE.row,clL,clA]
end Go.Av.F
end
section
namespace Go.Av.F
open Go Go.Av
open Go.Proofs Go.Proofs.Tryz
attribute [-simp] getU hdS canon qab i64w
attribute [local simp] tt93 tt42 tt46
attribute [local simp] tt3 tt4 tt9 tt27 tt28 tt29 tt30 tt32 tt190 tt212 tt187 tt188 tt44 tt90 tt43 tt97 tt91
theorem eqPtrC (p:PT):ACall Go.Proofs.Tryz.prog 184 [.agg p.row,.agg p.row] [] (fun r L'=>r=.bool true∧L'=[]):=by
 refine acx func184 [] ntmps184 rfl rfl rfl ?_
 simp[PT.row]
theorem eqDdtC (p:DE):ACall Go.Proofs.Tryz.prog 183 [.agg p.row,.agg p.row] [] (fun r L'=>r=.bool true∧L'=[]):=by
 refine acx func183 [] ntmps183 rfl rfl rfl ?_
 simp[DE.row]
theorem eqPtrSC (l:List PT) (hl:l.length≤1048576):ACall Go.Proofs.Tryz.prog 93 [.lst 3 (l.map PT.row),.lst 3 (l.map PT.row)] [] (fun r L'=>r=.bool true∧L'=[]):=by
 refine acx func93 [] ntmps93 rfl rfl rfl ?_
 simp
 refine qat (X:=Nat) [0,1,5] (fun i=>⟨mkT [(0,.lst 3 (l.map PT.row)),(1,.lst 3 (l.map PT.row)),(5,.int .i64 i)],hpOf [],Us.of []⟩) (fun i=>l.length-i) (fun i=>i≤l.length) 0 ⟨by simp,[],by simp[qab],by simp[canon]⟩ ?_
 intro i hi
 by_cases h1:i<l.length
 ·obtain⟨x,e0⟩:∃ x,l[i]=x:=⟨_,rfl⟩
  have e1:l[i]?=some x:=by rw[← e0];exact List.getElem?_eq_getElem h1
  have e2:IntKind.i64.wrap ((i:Int)+1)=((i+1:Nat):Int):=by rw[qaq _ (by omega)];omega
  have hx:x.row.length=3:=rfl
  have hx2:x.row.take 3=x.row:=rfl
  simp[h1,e0,e1,hx,hx2]
  refine qae (by kernel_rfl) (eqPtrC x) (by simp[pt_cl]) (by simp) ?_
  simp[e2]
  exact qak (i+1) (by omega) (by omega) [] (by simp[qab]) (by simp[canon])
 ·have:i=l.length:=by omega
  subst this
  simp
theorem eqDdtSC (l:List DE) (hl:l.length≤1048576):ACall Go.Proofs.Tryz.prog 92 [.lst 3 (l.map DE.row),.lst 3 (l.map DE.row)] [] (fun r L'=>r=.bool true∧L'=[]):=by
 refine acx func92 [] ntmps92 rfl rfl rfl ?_
 simp
 refine qat (X:=Nat) [0,1,5] (fun i=>⟨mkT [(0,.lst 3 (l.map DE.row)),(1,.lst 3 (l.map DE.row)),(5,.int .i64 i)],hpOf [],Us.of []⟩) (fun i=>l.length-i) (fun i=>i≤l.length) 0 ⟨by simp,[],by simp[qab],by simp[canon]⟩ ?_
 intro i hi
 by_cases h1:i<l.length
 ·obtain⟨x,e0⟩:∃ x,l[i]=x:=⟨_,rfl⟩
  have e1:l[i]?=some x:=by rw[← e0];exact List.getElem?_eq_getElem h1
  have e2:IntKind.i64.wrap ((i:Int)+1)=((i+1:Nat):Int):=by rw[qaq _ (by omega)];omega
  have hx:x.row.length=3:=rfl
  have hx2:x.row.take 3=x.row:=rfl
  simp[h1,e0,e1,hx,hx2]
  refine qae (by kernel_rfl) (eqDdtC x) (by simp[de_cl]) (by simp) ?_
  simp[e2]
  exact qak (i+1) (by omega) (by omega) [] (by simp[qab]) (by simp[canon])
 ·have:i=l.length:=by omega
  subst this
  simp
theorem eqIntSC (l:List Int) (hl:l.length≤1048576):ACall Go.Proofs.Tryz.prog 20 [.lst 1 (l.map qac),.lst 1 (l.map qac)] [] (fun r L'=>r=.bool true∧L'=[]):=by
 refine acx func20 [] ntmps20 rfl rfl rfl ?_
 simp
 refine qat (X:=Nat) [0,1,5] (fun i=>⟨mkT [(0,.lst 1 (l.map qac)),(1,.lst 1 (l.map qac)),(5,.int .i64 i)],hpOf [],Us.of []⟩) (fun i=>l.length-i) (fun i=>i≤l.length) 0 ⟨by simp,[],by simp[qab],by simp[canon]⟩ ?_
 intro i hi
 by_cases h1:i<l.length
 ·obtain⟨x,e0⟩:∃ x,l[i]=x:=⟨_,rfl⟩
  have e1:l[i]?=some x:=by rw[← e0];exact List.getElem?_eq_getElem h1
  have e2:IntKind.i64.wrap ((i:Int)+1)=((i+1:Nat):Int):=by rw[qaq _ (by omega)];omega
  simp[h1,e0,e1,qac,e2]
  exact qak (i+1) (by omega) (by omega) [] (by simp[qab]) (by simp[canon,qac])
 ·have:i=l.length:=by omega
  subst this
  simp
def e8St (l:List PT) (i:Nat):S :=
 ⟨mkT [(2,.ptr 2 0 0),(3,.ptr 3 0 0),(5,.int .i64 i)],hpOf [(2,⟨24,[l.flatMap PT.row]⟩),(3,⟨24,[l.flatMap PT.row]⟩)],Us.of [2,3]⟩
theorem eqA8C (p0 p1 p2 p3 p4 p5 p6 p7:PT):ACall Go.Proofs.Tryz.prog 281 [.agg ([p0,p1,p2,p3,p4,p5,p6,p7].flatMap PT.row),.agg ([p0,p1,p2,p3,p4,p5,p6,p7].flatMap PT.row)] [] (fun r L'=>r=.bool true∧L'=[]):=by
 refine acx func281 [(4,[zI 0,zI 1,zJ 2 [2] [],zJ 3 [] [2],zJ 4 [] [2],zJ 5 [3] [2],zI 6,zI 7])] ntmps281 rfl rfl rfl ?_
 simp[PT.row]
 refine qat (X:=Nat) [2,3,5] (e8St [p0,p1,p2,p3,p4,p5,p6,p7]) (fun i=>8-i) (fun i=>i≤8) 0 ⟨by simp,[(2,2),(3,3)],by simp[qab],by simp[canon,obOf,e8St,PT.row]⟩ ?_
 intro i hi
 have hc:i=0∨i=1∨i=2∨i=3∨i=4∨i=5∨i=6∨i=7∨i=8:=by omega
 rcases hc with rfl | rfl | rfl | rfl | rfl | rfl | rfl | rfl | rfl
 ·simp[e8St,PT.row]
  refine qae (by kernel_rfl) (eqPtrC p0) (by simp[PT.row]) (by simp) ?_
  have w1:IntKind.i64.wrap 1=1:=by decide
  simp[PT.row,w1]
  exact qak 1 (by omega) (by omega) [(2,2),(3,3)] (by simp[qab]) (by simp[canon,obOf,e8St,PT.row])
 ·simp[e8St,PT.row]
  refine qae (by kernel_rfl) (eqPtrC p1) (by simp[PT.row]) (by simp) ?_
  have w2:IntKind.i64.wrap 2=2:=by decide
  simp[PT.row,w2]
  exact qak 2 (by omega) (by omega) [(2,2),(3,3)] (by simp[qab]) (by simp[canon,obOf,e8St,PT.row])
 ·simp[e8St,PT.row]
  refine qae (by kernel_rfl) (eqPtrC p2) (by simp[PT.row]) (by simp) ?_
  have w3:IntKind.i64.wrap 3=3:=by decide
  simp[PT.row,w3]
  exact qak 3 (by omega) (by omega) [(2,2),(3,3)] (by simp[qab]) (by simp[canon,obOf,e8St,PT.row])
 ·simp[e8St,PT.row]
  refine qae (by kernel_rfl) (eqPtrC p3) (by simp[PT.row]) (by simp) ?_
  have w4:IntKind.i64.wrap 4=4:=by decide
  simp[PT.row,w4]
  exact qak 4 (by omega) (by omega) [(2,2),(3,3)] (by simp[qab]) (by simp[canon,obOf,e8St,PT.row])
 ·simp[e8St,PT.row]
  refine qae (by kernel_rfl) (eqPtrC p4) (by simp[PT.row]) (by simp) ?_
  have w5:IntKind.i64.wrap 5=5:=by decide
  simp[PT.row,w5]
  exact qak 5 (by omega) (by omega) [(2,2),(3,3)] (by simp[qab]) (by simp[canon,obOf,e8St,PT.row])
 ·simp[e8St,PT.row]
  refine qae (by kernel_rfl) (eqPtrC p5) (by simp[PT.row]) (by simp) ?_
  have w6:IntKind.i64.wrap 6=6:=by decide
  simp[PT.row,w6]
  exact qak 6 (by omega) (by omega) [(2,2),(3,3)] (by simp[qab]) (by simp[canon,obOf,e8St,PT.row])
 ·simp[e8St,PT.row]
  refine qae (by kernel_rfl) (eqPtrC p6) (by simp[PT.row]) (by simp) ?_
  have w7:IntKind.i64.wrap 7=7:=by decide
  simp[PT.row,w7]
  exact qak 7 (by omega) (by omega) [(2,2),(3,3)] (by simp[qab]) (by simp[canon,obOf,e8St,PT.row])
 ·simp[e8St,PT.row]
  refine qae (by kernel_rfl) (eqPtrC p7) (by simp[PT.row]) (by simp) ?_
  have w8:IntKind.i64.wrap 8=8:=by decide
  simp[PT.row,w8]
  exact qak 8 (by omega) (by omega) [(2,2),(3,3)] (by simp[qab]) (by simp[canon,obOf,e8St,PT.row])
 ·simp[e8St,PT.row]
theorem eqCsC (s:CS) (h8:s.map.length=8):ACall Go.Proofs.Tryz.prog 182 [.agg s.row,.agg s.row] [] (fun r L'=>r=.bool true∧L'=[]):=by
 obtain⟨nm,kd,fr,mp,hm,dt⟩:=s
 simp only at h8
 obtain⟨p0,p1,p2,p3,p4,p5,p6,p7,rfl⟩:=eight mp h8
 refine acx func182 [] ntmps182 rfl rfl rfl ?_
 simp[CS.row,PT.row]
 refine qae (by kernel_rfl) (eqA8C p0 p1 p2 p3 p4 p5 p6 p7) (by simp[PT.row]) (by simp) ?_
 simp[PT.row]
 refine qae (by kernel_rfl) (eqPtrC hm) (by simp[PT.row]) (by simp) ?_
 simp[PT.row]
theorem eqCsSC (l:List CS) (hl:l.length≤1048576) (h8:∀ s∈l,s.map.length=8):ACall Go.Proofs.Tryz.prog 91 [.lst 31 (l.map CS.row),.lst 31 (l.map CS.row)] [] (fun r L'=>r=.bool true∧L'=[]):=by
 refine acx func91 [] ntmps91 rfl rfl rfl ?_
 simp
 refine qat (X:=Nat) [0,1,5] (fun i=>⟨mkT [(0,.lst 31 (l.map CS.row)),(1,.lst 31 (l.map CS.row)),(5,.int .i64 i)],hpOf [],Us.of []⟩) (fun i=>l.length-i) (fun i=>i≤l.length) 0 ⟨by simp,[],by simp[qab],by simp[canon]⟩ ?_
 intro i hi
 by_cases h1:i<l.length
 ·obtain⟨x,e0⟩:∃ x,l[i]=x:=⟨_,rfl⟩
  have e1:l[i]?=some x:=by rw[← e0];exact List.getElem?_eq_getElem h1
  have e2:IntKind.i64.wrap ((i:Int)+1)=((i+1:Nat):Int):=by rw[qaq _ (by omega)];omega
  have hx8:=h8 x (List.mem_of_getElem? e1)
  simp[h1,e0,e1,qbf x hx8,cs_take x hx8]
  refine qae (by kernel_rfl) (eqCsC x hx8) (by simp[cs_cl]) (by simp) ?_
  simp[e2]
  exact qak (i+1) (by omega) (by omega) [] (by simp[qab]) (by simp[canon])
 ·have:i=l.length:=by omega
  subst this
  simp
end Go.Av.F
end
section
namespace Go.Av.F
open Go Go.Av
open Go.Proofs Go.Proofs.Tryz
attribute [-simp] getU hdS canon qab i64w
attribute [local simp] tt3 tt4 tt9 tt5 tt294 tt83 tt81 tt154 tt152 tt52 tt22 tt30 tt79
structure TR where
 base:List BS
 since:List BO
 sure:Int
def TR.row (t:TR):List AV:=[.lst 11 (t.base.map BS.row),.lst 5 (t.since.map BO.row),.int .i64 t.sure]
def bkRow (b:List BS):List AV:=[.lst 11 (b.map BS.row)]
theorem op_len (o:BO):(BO.row o).length=5:=rfl
theorem op_take (o:BO):(BO.row o).take 5=BO.row o:=rfl
attribute [local simp] op_len op_take
end Go.Av.F
end
section
namespace Go.Av.F
open Go Go.Av
open Go.Proofs Go.Proofs.Tryz
attribute [-simp] getU hdS canon qab i64w
attribute [local simp] tt3 tt4 tt9 tt5 tt294 tt83 tt81 tt154 tt152 tt52 tt22 tt30 tt79 op_len op_take
def opsOb (l:List BO):Ob:=⟨5,l.map BO.row⟩
theorem ops_sz (l:List BO):(opsOb l).sz=5:=rfl
theorem ops_els (l:List BO):(opsOb l).els=l.map BO.row:=rfl
attribute [local simp] ops_sz ops_els
def zTr:Ob:=⟨3,[[.nils,.nils,.int .i64 0]]⟩
def tA (bs:List UInt8) (x:Int×List BS):S :=
 ⟨mkT [(0,.ptr 1000 0 0),(2,.ptr 2 0 0),(3,.ptr 3 0 0),(4,.ptr 4 0 0)],hpOf [(1000,rdOb bs x.1),(2,zTr),(3,⟨3,[[.lst 11 (x.2.map BS.row),.nils,.int .i64 0]]⟩),(4,⟨1,[bkRow x.2]⟩)],Us.of [1000,1000,2,3,4]⟩
def tN (bs:List UInt8) (b:List BS) (sure:Int) (q:Int) (i:Int):S :=
 ⟨mkT [(0,.ptr 1000 0 0),(2,.ptr 2 0 0),(3,.ptr 3 0 0),(4,.ptr 4 0 0),(5,.int .i64 i)],hpOf [(1000,rdOb bs q),(2,zTr),(3,⟨3,[[.lst 11 (b.map BS.row),.nils,.int .i64 sure]]⟩),(4,⟨1,[bkRow b]⟩)],Us.of [1000,1000,2,3,4]⟩
def tC (bs:List UInt8) (b:List BS) (sure:Int) (ops:List BO) (q:Int) (i:Int):S :=
 ⟨mkT [(0,.ptr 1000 0 0),(2,.ptr 2 0 0),(3,.ptr 3 0 0),(4,.ptr 4 0 0),(5,.int .i64 i)],hpOf [(1000,rdOb bs q),(2,zTr),(3,⟨3,[[.lst 11 (b.map BS.row),.sl 901 0 ops.length,.int .i64 sure]]⟩),(4,⟨1,[bkRow b]⟩),(901,opsOb ops)],Us.of [1000,1000,2,3,4,901]⟩
def tS (bs:List UInt8) (b:List BS) (sure:Int) (x:Int×Int×List BO):S:=if x.2.2=[] then tN bs b sure x.2.1 x.1 else tC bs b sure x.2.2 x.2.1 x.1
end Go.Av.F
end
section
namespace Go.Av.F
open Go Go.Av
open Go.Proofs Go.Proofs.Tryz
attribute [-simp] getU hdS canon qab i64w
attribute [local simp] tt3 tt4 tt9 tt5 tt294 tt83 tt81 tt154 tt152 tt52 tt22 tt30
def OpG (o:BO):Prop:=o.a.length≤24∧o.b.length≤24
theorem isU8_wrap (x:Int):isU8 [.int .u8 (IntKind.u8.wrap x)]=true:=by
 have h:IntKind.u8.wrap x=x % 256:=rfl
 simp[isU8,h]
 try omega
end Go.Av.F
end
section
namespace Go.Av.F
open Go Go.Av
open Go.Proofs Go.Proofs.Tryz
attribute [-simp] getU hdS canon qab i64w
attribute [local simp] tt3 tt4 tt9 tt5 tt294 tt83 tt81 tt154 tt152 tt52 tt22 tt30
def BkG (bs:List BS):Prop:=∀ b∈bs,b.bl.length=8∧b.name.length≤24∧b.frm.length≤24
theorem newB_gd {bs:List BS} {s:BS} (h:BkG bs) (hs:s.bl.length=8∧s.name.length≤24∧s.frm.length≤24):BkG (newB bs s).1:=fun b hb=>by
 rcases newB_mem hb with h1 | rfl
 ·exact h b h1
 ·exact hs
theorem doB_gd {bs:List BS} {o:BO} (h:BkG bs) (ho:OpG o):BkG (doB bs o).1:=by
 have hg:∀ (i:Nat) t,bs[i]?=some t→t.bl.length=8∧t.name.length≤24∧t.frm.length≤24:=fun i t ht=>h _ (List.mem_of_getElem? ht)
 unfold doB
 split
 ·exact newB_gd h ⟨rfl,ho.1,by simp⟩
 ·split
  ·exact h
  ·split
   ·exact h
   ·split
    ·rename_i t ht
     have:=hg _ _ ht
     split
     ·unfold killB
      split
      ·split
       ·exact h
       ·intro b hb
        simp only[List.mem_append]at hb
        rcases hb with hb | hb
        ·exact h _ (List.mem_of_mem_take hb)
        ·exact h _ (List.mem_of_mem_drop hb)
      ·exact h
     ·split
      ·unfold putB
       split
       ·rename_i t2 ht2
        have:=hg _ _ ht2
        split
        ·exact h
        ·split
         ·exact h
         ·intro b hb
          rcases mem_set hb with hb | rfl
          ·exact h _ hb
          ·exact⟨by simp[this.1],this.2⟩
       ·exact h
      ·split
       ·unfold backB
        split
        ·rename_i t2 ht2
         have h2:=hg _ _ ht2
         split
         ·exact h
         ·split
          ·rename_i u hu
           have h3:=hg _ _ hu
           split
           ·exact h
           ·intro b hb
            rcases mem_set hb with hb | rfl
            ·exact h _ hb
            ·exact⟨h3.1,h2.2⟩
          ·exact h
        ·exact h
       ·split
        ·split
         ·exact h
         ·exact newB_gd h ⟨this.1,ho.2,this.2.1⟩
        ·split
         ·exact h
         ·exact newB_gd h ⟨this.1,ho.2,this.2.1⟩
    ·exact h
end Go.Av.F
end
section
namespace Go.Av.F
open Go Go.Av
open Go.Proofs Go.Proofs.Tryz
attribute [-simp] getU hdS canon qab i64w
attribute [local simp] tt3 tt4 tt9 tt5 tt294 tt83 tt81 tt154 tt152 tt52 tt22 tt30
@[simp] theorem row_drop1 (t:BS):(BS.row t).drop 1=.int .i64 t.kind::.str t.frm::t.bl.map .str:=rfl
@[simp] theorem row_drop2 (t:BS):(BS.row t).drop 2=.str t.frm::t.bl.map .str:=rfl
@[simp] theorem row_take1 (t:BS):(BS.row t).take 1=[.str t.name]:=rfl
@[simp] theorem row_take2 (t:BS):(BS.row t).take 2=[.str t.name,.int .i64 t.kind]:=rfl
@[simp] theorem row_take3 (t:BS):(BS.row t).take 3=[.str t.name,.int .i64 t.kind,.str t.frm]:=rfl
end Go.Av.F
end
section
namespace Go.Av.F
open Go Go.Av
open Go.Proofs Go.Proofs.Tryz
attribute [-simp] getU hdS canon qab i64w
attribute [local simp] tt3 tt4 tt9 tt5 tt294 tt83 tt81 tt154 tt152 tt52 tt22 tt30
end Go.Av.F
end
section
namespace Go.Av.F
open Go Go.Av
open Go.Proofs Go.Proofs.Tryz
attribute [-simp] getU hdS canon qab i64w
def resB (bs:List BS) (o:BO):List BS×Int:=if qbb bs=true then doB bs o else ([],5)
def bkP (res:List BS×Int) (r:AV) (L':List (Nat×Ob)):Prop:=r=.tup [bk res.1,.int .i64 res.2]∧L'=[]
theorem clR_rows:∀ bs:List BS,clR (bs.map BS.row)=true
 | []=>rfl
 | a::r=>by
  have:=clR_rows r
  simp only[clR,List.map_cons,List.all_cons,Bool.and_eq_true]at this ⊢
  refine⟨?_,this⟩
  simp[BS.row,clL,clL_strs,clA]
theorem pureC {f:Nat} {args:List AV} {xs:List Nat} {bs:List BS} {o:BO} (h:ACall Go.Proofs.Tryz.prog f args [] (bkN xs (qbb bs) (doB bs o))):ACall Go.Proofs.Tryz.prog f args [] (bkP (resB bs o)):=by
 unfold resB
 cases h1:qbb bs with
 | false =>
  rw[h1]at h
  refine h.imp ?_
  rintro r L' hr
  simp only[bkN,Bool.false_eq_true,if_false]at hr
  obtain⟨rfl,rfl⟩:=hr
  exact⟨_,impA_tup2 (impA_agg1 (impA_nils 11)) (qbw _),rfl,rfl⟩
 | true =>
  rw[h1]at h
  refine h.frz ?_
  rintro r L' hr
  simp only[bkN,if_true]at hr
  obtain⟨id,_,rfl,rfl⟩:=hr
  refine⟨id,bkOb (doB bs o).1,rfl,clR_rows _,?_,rfl⟩
  simp[bk,bkOb]
theorem implOkC (bs:List BS) (hb:BkG bs) (hl:bs.length<1500000):ACall Go.Proofs.Tryz.prog 126 [bk bs] [] (fun r L'=>r=.bool (qbb bs)∧L'=[]) :=
 ok_eq bs ▸ ibookOkC bs (by omega) (fun b h=>(hb b h).1) (fun b h=>by have:=(hb b h).2.1;omega)
theorem specOkC (bs:List BS) (hb:BkG bs) (hl:bs.length<1500000):ACall Go.Proofs.Tryz.prog 113 [bk bs] [] (fun r L'=>r=.bool (qbb bs)∧L'=[]) :=
 bookOkC bs (by omega) (fun b h=>(hb b h).1) (fun b h=>by have:=(hb b h).2.1;omega)
end Go.Av.F
end
