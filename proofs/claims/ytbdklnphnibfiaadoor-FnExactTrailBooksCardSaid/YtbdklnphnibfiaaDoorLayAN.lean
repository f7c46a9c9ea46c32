/- Lemmas for the proof, no statement of the seat; no conditions. -/
import Derived.Test.YtbdklnphnibfiaaDoorLayAM
import Derived.Test.YtbdklnphnibfiaaDoorProg
set_option linter.unusedSimpArgs false
set_option linter.unusedVariables false
set_option linter.unnecessarySimpa false
set_option maxRecDepth 100000
section
namespace Go.Av.F
open Go Go.Av Go.Proofs Go.Proofs.Tryd
attribute [simp] DE.row PT.row intRow
attribute [simp] tt3 tt4 tt5 tt9 tt22 tt24 tt25 tt27 tt29 tt31 tt33 tt34 tt36 tt53 tt61 tt62 tt64 tt71 tt80 tt94 tt103 tt119
theorem cv_of {f:Nat} {args:List AV} {v:AV} (h:ACall prog f args [] (fun r L'=>r=v∧L'=[])) (he:qcf prog f=true:=by kernel_rfl) (hca:clL args=true:=by simp) (hcv:clA v=true:=by simp):CV prog f args v:=⟨he,hca,hcv,h⟩
attribute [simp] shL sh1 beqC beq1
def mdig (k:Nat) (out:List UInt8):List UInt8:=if h:k=0 then out else mdig (k / 10) (UInt8.ofNat (48+k % 10)::out)
termination_by k
theorem mdig_pos {k:Nat} (h:0<k) (out:List UInt8):mdig k out=mdig (k / 10) (UInt8.ofNat (48+k % 10)::out):=by
 rw[mdig,dif_neg (by omega)]
theorem mdig_zero (out:List UInt8):mdig 0 out=out:=by
 rw[mdig,dif_pos rfl]
def mtB (k:Nat):List UInt8:=if k=0 then [109,48] else 109::mdig k []
theorem markTextC (k:Nat) (hk:k<1000000000):CV prog 47 [.int .i64 k] (.str (mtB k)):=by
 obtain⟨R,hR⟩:∃ R,mtB k=R:=⟨_,rfl⟩
 rw[hR]
 refine cvx func47 [] ntmps47 rfl rfl rfl ?_
 by_cases h0:k=0
 ·subst h0
  simp[mtB]at hR
  simp -implicitDefEqProofs [← hR]
 ·rw[mtB,if_neg h0]at hR
  simp -implicitDefEqProofs [h0]
  refine ev_lp (X:=Nat×List UInt8) [0,3] [] (fun x=>[(0,.int .i64 x.1),(3,.str x.2)]) (fun _=>[]) (fun x=>x.1) (fun x=>x.2.length+x.1≤k∧109::mdig x.1 x.2=R) (k,[]) (by simp[hR]) ?_
  rintro⟨j,out⟩ ⟨hj,hm⟩
  simp only at hj hm
  by_cases hz:j=0
  ·subst hz
   rw[mdig_zero]at hm
   simp -implicitDefEqProofs [hm]
   omega
  ·rw[mdig_pos (by omega)]at hm
   have hj':0<j:=by omega
   have e1:=i64w (48+(j:Int) % 10) (by omega) (by omega)
   have e3:=i64w ((j:Int) / 10) (by omega) (by omega)
   have e2:byteOf [.int .u8 (IntKind.u8.wrap (48+(j:Int) % 10))]=48+UInt8.ofNat (j % 10):=by
    have:IntKind.u8.wrap (48+(j:Int) % 10)=((48+j % 10:Nat):Int):=by
     show(48+(j:Int) % 10) % 256=_
     omega
    rw[this]
    show UInt8.ofNat (((48+j % 10:Nat):Int)).toNat=_
    rw[Int.toNat_natCast,UInt8.ofNat_add]
    rfl
   have t1:(j:Int).tmod 10=(j:Int) % 10:=Int.tmod_eq_emod_of_nonneg (by omega)
   have t2:(j:Int).tdiv 10=(j:Int) / 10:=Int.tdiv_eq_ediv_of_nonneg (by omega)
   simp -implicitDefEqProofs [hj',hz,t1,t2,e1,e3]
   refine⟨isU8_wrap _,by omega,?_⟩
   refine nx (j / 10,UInt8.ofNat (48+j % 10)::out) [] ?_ ?_ (h4:=?_)
   ·refine⟨?_,hm⟩
    simp only[List.length_cons]
    omega
   ·simp only
    omega
   ·simp[t1,t2,e1,e2,e3]
theorem qbu (z:Int) (k:Nat) (hz:z=k) (hk:k<1000000000):CV prog 47 [.int .i64 z] (.str (mtB k)):=hz ▸ markTextC k hk
def mkRow (k:Nat):BS:=⟨mtB k,((k+1:Nat):Int),mtB (k+2),(List.range 8).map fun j=>mtB (k+3+j)⟩
@[simp] theorem mkRow_n (k:Nat):(mkRow k).name=mtB k:=rfl
@[simp] theorem mkRow_k (k:Nat):(mkRow k).kind=(k:Int)+1:=by simp[mkRow]
@[simp] theorem mkRow_f (k:Nat):(mkRow k).frm=mtB (k+2):=rfl
@[simp] theorem mkRow_l (k:Nat):(mkRow k).bl.length=8:=by simp[mkRow]
@[simp] theorem mkRow_g (k j:Nat) (h:j<(mkRow k).bl.length):(mkRow k).bl[j]=mtB (k+3+j):=by simp[mkRow]
theorem mkRow_row (k:Nat):(mkRow k).row=.str (mtB k)::.int .i64 ((k:Int)+1)::.str (mtB (k+2))::(List.range 8).map fun j=>AV.str (mtB (k+3+j)):=by
 simp[mkRow,BS.row]
theorem mkRow_at (k j:Nat) (h:j<8):(mkRow k).row[3+j]?=some (.str (mtB (k+3+j))):=by
 rw[mkRow_row,show 3+j=j+1+1+1 by omega]
 simp[h]
attribute [simp] clL_strs
@[simp] theorem renL_strs (ρ:Nat→Option Plc) (l:List (List UInt8)):renL ρ (l.map AV.str)=l.map AV.str:=by
 induction l with
 | nil=>rfl
 | cons a r ih=>simp[ih]
def BsG (b:BS):Prop:=i64G b.kind∧b.bl.length=8∧b.name.length≤maxLen∧b.frm.length≤maxLen∧∀ t∈b.bl,t.length≤maxLen
def szSs:List (List UInt8)→Int→Int
 | [],l=>l
 | t::r,l=>if l-t.length<0 then -1 else szSs r (l-t.length)
theorem szSs_le:∀ (ts:List (List UInt8)) (l:Int),0≤l→szSs ts l≤l∧-1≤szSs ts l∧(0≤szSs ts l→∀ t∈ts,(t.length:Int)≤l)
 | [],l,h=>by simp[szSs];omega
 | t::r,l,h=>by
  unfold szSs
  split
  ·refine⟨by omega,by omega,fun h'=>by omega⟩
  ·obtain⟨h1,h2,h3⟩:=szSs_le r (l-t.length) (by omega)
   refine⟨by omega,h2,fun h' t' ht=>?_⟩
   rcases List.mem_cons.1 ht with rfl | ht
   ·omega
   ·have:=h3 h' t' ht
    omega
theorem szA8C (ts:List (List UInt8)) (l:Int) (h8:ts.length=8) (hm:∀ t∈ts,t.length≤maxLen) (hl:0≤l∧l≤1048576):CV prog 62 [.agg (ts.map .str),.int .i64 l] (.int .i64 (szSs ts l)):=by
 obtain⟨R,hR⟩:∃ R,szSs ts l=R:=⟨_,rfl⟩
 rw[hR]
 have hml:maxLen=9223372036854775807:=rfl
 refine cvx func62 [] ntmps62 rfl rfl rfl ?_ (hca:=by simp)
 simp -implicitDefEqProofs [h8]
 refine ev_lp (X:=Nat×Int) [1,2,5] [(2,2)] (fun x=>[(5,.int .i64 x.1),(1,.int .i64 x.2)]) (fun _=>[]) (fun x=>8-x.1) (fun x=>x.1≤8∧0≤x.2∧x.2≤1048576∧szSs (ts.drop x.1) x.2=R) (0,l) (by simp[hR,hl]) ?_
 rintro⟨i,k⟩ ⟨hi,hk0,hk,hd⟩
 simp only at hi hk0 hk hd
 cases hr:ts.drop i with
 | nil =>
  have:=dropn hr
  rw[hr]at hd
  have hie:i=8:=by omega
  simp[szSs]at hd
  simp -implicitDefEqProofs [hie,hd]
 | cons t r =>
  obtain⟨h1,e0,e1,h3⟩:=dropc hr
  rw[hr,szSs]at hd
  have:=hm t (List.mem_of_getElem? e1)
  have e2:=i64w ((i:Int)+1) (by omega) (by omega)
  have e3:=i64w (k-(t.length:Int)) (by omega) (by omega)
  have h1':(i:Int)<8:=by omega
  simp -implicitDefEqProofs [h1',h1,e0,e1,e2,e3,h8,obOf]
  repeat' first
   | with_reducible intro _
   | with_reducible refine And.intro ?_ ?_
  all_goals first
   | exact nx (i+1,k-t.length) [(2,2)] (by simp only;grind) (h4:=by simp[obOf,e2,e3])
   | grind
theorem szSetC (b:BS) (l:Int) (hb:BsG b) (hl:0≤l∧l≤1048576):CV prog 48 [.agg b.row,.int .i64 l] (.int .i64 (szSs (b.name::b.frm::b.bl) l)):=by
 obtain⟨R,hR⟩:∃ R,szSs (b.name::b.frm::b.bl) l=R:=⟨_,rfl⟩
 rw[hR]
 have hml:maxLen=9223372036854775807:=rfl
 obtain⟨_,b8,b1,b2,b3⟩:=hb
 have e1:=i64w (l-(b.name.length:Int)) (by omega) (by omega)
 have hrl:b.row.length=11:=qag _ b8
 have ht:List.take 8 (List.map AV.str b.bl)=List.map AV.str b.bl:=List.take_of_length_le (by simp;omega)
 refine cvx func48 [] ntmps48 rfl rfl rfl ?_ (hca:=by simp)
 unfold szSs at hR
 simp -implicitDefEqProofs [e1,hrl]
 by_cases h1:l<b.name.length
 ·rw[if_pos (by omega)]at hR
  simp -implicitDefEqProofs [h1,hR]
  intro h
  omega
 ·rw[if_neg (by omega)]at hR
  have e2:=i64w (l-b.name.length-(b.frm.length:Int)) (by omega) (by omega)
  unfold szSs at hR
  simp -implicitDefEqProofs [h1,e2]
  by_cases h2:l-b.name.length<b.frm.length
  ·rw[if_pos (by omega)]at hR
   simp -implicitDefEqProofs [h2,hR]
   intros
   omega
  ·rw[if_neg (by omega)]at hR
   have hR':=szSs_le b.bl (l-b.name.length-b.frm.length) (by omega)
   rw[hR]at hR'
   simp -implicitDefEqProofs [h2,ht]
   refine⟨fun h=>by omega,fun _=>⟨fun h=>by omega,fun _=>?_⟩⟩
   refine(szA8C b.bl (l-b.name.length-b.frm.length) b8 b3 ⟨by omega,by omega⟩).call ?_
   simp -implicitDefEqProofs [hR]
   intros
   omega
def szBsL:List BS→Int→Int
 | [],l=>l
 | b::r,l=>if szSs (b.name::b.frm::b.bl) l<0 then -1 else szBsL r (szSs (b.name::b.frm::b.bl) l)
def BkS (bs:List BS):Prop:=bs.length≤1048576∧∀ b∈bs,b.bl.length=8∧b.name.length≤1048576∧b.frm.length≤1048576
theorem szBsL_le:∀ (bs:List BS) (l:Int),0≤l∧l≤1048576→szBsL bs l≤l∧-1≤szBsL bs l∧(0≤szBsL bs l→∀ b∈bs,b.name.length≤1048576∧b.frm.length≤1048576)
 | [],l,h=>by simp[szBsL];omega
 | b::r,l,h=>by
  unfold szBsL
  obtain⟨g1,g2,g3⟩:=szSs_le (b.name::b.frm::b.bl) l h.1
  split
  ·exact⟨by omega,by omega,fun h'=>by omega⟩
  ·obtain⟨h1,h2,h3⟩:=szBsL_le r (szSs (b.name::b.frm::b.bl) l) (by omega)
   refine⟨by omega,h2,fun h' t' ht=>?_⟩
   rcases List.mem_cons.1 ht with rfl | ht
   ·have h4:=g3 (by omega) t'.name (by simp)
    have h5:=g3 (by omega) t'.frm (by simp)
    omega
   ·exact h3 h' t' ht
theorem szSetsC' (bs:List BS) (l:Int) (hb:∀ b∈bs,BsG b) (hbl:bs.length≤maxLen) (hl:0≤l∧l≤1048576):CV prog 29 [.lst 11 (bs.map BS.row),.int .i64 l] (.int .i64 (if l-bs.length<0 then -1 else szBsL bs (l-bs.length))):=by
 have hml:maxLen=9223372036854775807:=rfl
 have e1:=i64w (l-(bs.length:Int)) (by omega) (by omega)
 refine cvx func29 [] ntmps29 rfl rfl rfl ?_
 by_cases h0:l-bs.length<0
 ·rw[if_pos h0]
  simp -implicitDefEqProofs [e1]
  intro h
  omega
 rw[if_neg h0]
 obtain⟨R,hR⟩:∃ R,szBsL bs (l-bs.length)=R:=⟨_,rfl⟩
 rw[hR]
 have h0':¬ (l:Int)<bs.length:=by omega
 simp -implicitDefEqProofs [e1,h0']
 refine⟨fun h=>by omega,fun _=>?_⟩
 refine ev_lp (X:=Nat×Int) [0,1,5] [] (fun x=>[(5,.int .i64 x.1),(1,.int .i64 x.2)]) (fun _=>[]) (fun x=>bs.length-x.1) (fun x=>x.1≤bs.length∧0≤x.2∧x.2≤1048576∧szBsL (bs.drop x.1) x.2=R) (0,l-bs.length) (by simp[hR];omega) ?_
 rintro⟨i,k⟩ ⟨hi,hk0,hk,hd⟩
 simp only at hi hk0 hk hd
 cases hr:bs.drop i with
 | nil =>
  have:=dropn hr
  rw[hr]at hd
  have hie:i=bs.length:=by omega
  simp[szBsL]at hd
  simp -implicitDefEqProofs [hie,hd]
 | cons b r =>
  obtain⟨h1,f0,f1,h3⟩:=dropc hr
  rw[hr,szBsL]at hd
  have hb1:=hb b (List.mem_of_getElem? f1)
  have hz:=szSs_le (b.name::b.frm::b.bl) k hk0
  have e2:=i64w ((i:Int)+1) (by omega) (by omega)
  have hrl:b.row.length=11:=qag _ hb1.2.1
  have ht:List.take 11 b.row=b.row:=List.take_of_length_le (by omega)
  simp -implicitDefEqProofs [h1,f0,f1,e2,hrl,ht]
  refine(szSetC b k hb1 ⟨hk0,hk⟩).call ?_
  simp -implicitDefEqProofs
  repeat' first
   | with_reducible intro _
   | with_reducible refine And.intro ?_ ?_
  all_goals first
   | exact nx (i+1,szSs (b.name::b.frm::b.bl) k) [] (by simp only;grind) (h4:=by simp[e2])
   | grind
theorem szBookC (bs:List BS) (hb:∀ b∈bs,BsG b) (hbl:bs.length≤maxLen):∃ z:Int,z≤1048576∧(0≤z→BkS bs)∧CV prog 13 [bk bs,.int .i64 1048576] (.int .i64 z):=by
 have hs:=szSetsC' bs 1048576 hb hbl ⟨by omega,by omega⟩
 obtain⟨z,hz⟩:∃ z,(if 1048576-(bs.length:Int)<0 then -1 else szBsL bs (1048576-(bs.length:Int)))=z:=⟨_,rfl⟩
 rw[hz]at hs
 have hzz:z≤1048576∧-1≤z∧(0≤z→BkS bs):=by
  split at hz
  ·exact⟨by omega,by omega,fun h=>by omega⟩
  ·obtain⟨h1,h2,h3⟩:=szBsL_le bs (1048576-(bs.length:Int)) ⟨by omega,by omega⟩
   refine⟨by omega,by omega,fun h=>⟨by omega,fun b hbm=>⟨(hb b hbm).2.1,h3 (by omega) b hbm⟩⟩⟩
 refine⟨z,hzz.1,hzz.2.2,?_⟩
 refine cvx func13 [] ntmps13 rfl rfl rfl ?_ (hca:=by simp[bk])
 simp -implicitDefEqProofs [bk]
 refine hs.call ?_
 simp -implicitDefEqProofs
 intros
 omega
def opS (o:BO):Prop:=o.a.length≤1048576∧o.b.length≤1048576
theorem setS (cs:List (List UInt8)) (i:Nat) (x:List UInt8) (h:i<cs.length):List.take i (cs.map AV.str)++AV.str x::List.drop (i+1) (cs.map AV.str)=(cs.set i x).map AV.str:=by
 rw[List.set_eq_take_append_cons_drop,if_pos h]
 simp
@[simp] theorem renL_setS (ρ:Nat→Option Plc) (l:List (List UInt8)) (i:Nat) (b:List UInt8):renL ρ ((l.map AV.str).set i (AV.str b))=(l.map AV.str).set i (AV.str b):=by
 rw[← List.map_set]
 exact renL_strs ρ _
theorem toSA8C (ts:List (List UInt8)) (h8:ts.length=8):CV prog 67 [.agg (ts.map .str)] (.agg (ts.map .str)):=by
 refine cvx func67 [] ntmps67 rfl rfl rfl ?_
 simp -implicitDefEqProofs [h8]
 refine ev_lp (X:=Nat×List (List UInt8)) [1,2,3,4] [(1,1),(2,2),(3,3)] (fun x=>[(4,.int .i64 x.1)]) (fun x=>[(3,⟨8,[x.2.map .str]⟩)]) (fun x=>8-x.1)
  (fun x=>x.1≤8∧x.2.length=8∧∀ j,j<x.1→x.2[j]?=ts[j]?) (0,zbl) ⟨by omega,rfl,by omega⟩ ?_ (he:=by simp[obOf,zbl])
 rintro⟨i,cs⟩ ⟨hi,hc,hm⟩
 simp only at hi hc hm
 by_cases h2:i<8
 ·obtain⟨b,f1⟩:∃ b,ts[i]?=some b:=⟨_,List.getElem?_eq_getElem (by omega)⟩
  have h2':(i:Int)<8:=by omega
  have hil:i<ts.length:=by omega
  have f0:ts[i]=b:=(List.getElem?_eq_some_iff.1 f1).2
  have e1:=i64w ((i:Int)+1) (by omega) (by omega)
  have e2:=setS cs i b (by omega)
  simp -implicitDefEqProofs [h2',h2,hil,f0,f1,obOf,h8,hc]
  refine⟨by omega,?_⟩
  refine nx (i+1,cs.set i b) [(1,1),(2,2),(3,3)] ⟨by simp only;omega,by simp[hc],?_⟩ (by simp only;omega) (h4:=by simp[obOf,e1,e2])
  intro j hj
  simp only at hj ⊢
  by_cases hji:j=i
  ·subst hji
   simp[hc,h2,f0,hil]
  ·rw[List.getElem?_set_ne (by omega)]
   exact hm j (by omega)
 ·have:i=8:=by omega
  subst this
  have hcs:cs=ts:=by
   refine List.ext_getElem? fun q=>?_
   by_cases hq:q<8
   ·exact hm q hq
   ·rw[List.getElem?_eq_none (by omega),List.getElem?_eq_none (by omega)]
  subst hcs
  have ht:List.take 8 (List.map AV.str cs)=List.map AV.str cs:=List.take_of_length_le (by simp;omega)
  simp -implicitDefEqProofs [obOf,h8,ht]
theorem toSetC (b:BS) (h8:b.bl.length=8):CV prog 51 [.agg b.row] (.agg b.row):=by
 have hrl:b.row.length=11:=qag _ h8
 have ht:List.take 8 (List.map AV.str b.bl)=List.map AV.str b.bl:=List.take_of_length_le (by simp;omega)
 refine cvx func51 [] ntmps51 rfl rfl rfl ?_ (hca:=by simp) (hcv:=by simp)
 simp -implicitDefEqProofs [hrl,ht]
 refine(toSA8C b.bl h8).call ?_
 simp -implicitDefEqProofs [hrl,ht,h8]
 rfl
theorem oneA_bs (b:BS):∀ x∈b.row,oneA x=true:=by simp[BS.row]
theorem toSetsC (bs:List BS) (hl:bs.length≤2000000) (hB:∀ b∈bs,b.bl.length=8):ACall prog 35 [.lst 11 (bs.map BS.row)] [] (fun r L'=>r=.sl 900 0 bs.length∧L'=[(900,bkOb bs)]):=by
 obtain⟨n,hn⟩:∃ n,bs.length=n:=⟨_,rfl⟩
 rw[hn]at hl ⊢
 refine acx func35 [] ntmps35 rfl rfl rfl ?_
 simp -implicitDefEqProofs [hn]
 refine⟨by omega,?_⟩
 refine ev_lp (X:=Nat×List BS) [0,3,4] [(7,900)] (fun x=>[(4,.int .i64 x.1)]) (fun x=>[(900,bkOb x.2)]) (fun x=>n-x.1)
  (fun x=>x.1≤n∧x.2.length=n∧(∀ b∈x.2,b.bl.length=8)∧∀ j,j<x.1→x.2[j]?=bs[j]?) (0,List.replicate n ⟨[],0,[],zbl⟩) ⟨by omega,by simp,by simp[zbl],by omega⟩ ?_ (he:=by simp[obOf,bkOb,BS.row,zbl])
 rintro⟨i,cs⟩ ⟨hi,hc,hb,hm⟩
 simp only at hi hc hb hm
 by_cases h2:i<n
 ·obtain⟨b,f1⟩:∃ b,bs[i]?=some b:=⟨_,List.getElem?_eq_getElem (by omega)⟩
  have h2':(i:Int)<n:=by omega
  have hil:i<cs.length:=by omega
  have hil':i<bs.length:=by omega
  have f0:bs[i]=b:=(List.getElem?_eq_some_iff.1 f1).2
  have b8:=hB b (List.mem_of_getElem? f1)
  have hrl:b.row.length=11:=qag _ b8
  have ht:List.take 11 b.row=b.row:=List.take_of_length_le (by omega)
  have hc8:cs[i].row.length=11:=qag _ (hb _ (List.getElem_mem _))
  have e1:=i64w ((i:Int)+1) (by omega) (by omega)
  simp -implicitDefEqProofs [h2',h2,hil,hil',hn,f0,f1,hrl,ht]
  refine(toSetC b b8).call ?_
  simp -implicitDefEqProofs [h2',h2,hil,hil',hn,f0,f1,hrl,ht,hc8]
  refine⟨oneA_bs b,?_⟩
  refine nx (i+1,cs.set i b) [(900,900)] ⟨by simp only;omega,by simp[hc],?_,?_⟩ (by simp only;omega) (h4:=?_)
  ·intro c hcm
   rcases List.mem_or_eq_of_mem_set hcm with h | rfl
   ·exact hb c h
   ·exact b8
  ·intro j hj
   simp only at hj ⊢
   by_cases hji:j=i
   ·subst hji
    simp[hil,f0,hil']
   ·rw[List.getElem?_set_ne (by omega)]
    exact hm j (by omega)
  ·have hd:List.drop 11 cs[i].row=[]:=List.drop_eq_nil_of_le (by omega)
   simp[obOf,e1,hd,bkOb,List.map_set]
 ·have:i=n:=by omega
  subst this
  have hcs:cs=bs:=by
   refine List.ext_getElem? fun q=>?_
   by_cases hq:q<i
   ·exact hm q hq
   ·rw[List.getElem?_eq_none (by omega),List.getElem?_eq_none (by omega)]
  subst hcs
  simp -implicitDefEqProofs [hn]
theorem eqSA8C (s t:List (List UInt8)) (h8:s.length=8) (g8:t.length=8):CV prog 80 [.agg (s.map .str),.agg (t.map .str)] (.bool (decide (s=t))):=by
 obtain⟨R,hR⟩:∃ R,decide (s=t)=R:=⟨_,rfl⟩
 rw[hR]
 refine cvx func80 [(4,[zI 0,zI 1,zJ 2 [2] [],zJ 3 [] [2],zJ 4 [] [2],zJ 5 [3] [2],zI 6])] ntmps80 rfl rfl rfl ?_
 simp -implicitDefEqProofs [h8,g8]
 refine ev_lp (X:=Nat) [2,3,5] [(2,2),(3,3)] (fun x=>[(5,.int .i64 x)]) (fun x=>[]) (fun x=>8-x) (fun x=>x≤8∧decide (s.drop x=t.drop x)=R) 0 (by simp[hR]) ?_
 rintro i ⟨hi,hd⟩
 by_cases h2:i<8
 ·obtain⟨b,f1⟩:∃ b,s[i]?=some b:=⟨_,List.getElem?_eq_getElem (by omega)⟩
  obtain⟨c,g1⟩:∃ c,t[i]?=some c:=⟨_,List.getElem?_eq_getElem (by omega)⟩
  rw[dropAt f1,dropAt g1]at hd
  have h2':(i:Int)<8:=by omega
  have hil:i<s.length:=by omega
  have hjl:i<t.length:=by omega
  have f0:s[i]=b:=(List.getElem?_eq_some_iff.1 f1).2
  have g0:t[i]=c:=(List.getElem?_eq_some_iff.1 g1).2
  have e1:=i64w ((i:Int)+1) (by omega) (by omega)
  simp -implicitDefEqProofs [h2',h2,hil,hjl,f0,f1,g0,g1,obOf,h8,g8]
  by_cases hbc:b=c
  ·subst hbc
   simp -implicitDefEqProofs
   exact nx (i+1) [(2,2),(3,3)] (by simp only[List.cons.injEq,true_and]at hd;exact⟨by omega,hd⟩) (h4:=by simp[obOf,e1])
  ·simp -implicitDefEqProofs [hbc]
   grind
 ·have:i=8:=by omega
  subst this
  rw[List.drop_eq_nil_of_le (by omega),List.drop_eq_nil_of_le (by omega)]at hd
  simp at hd
  simp -implicitDefEqProofs [hd]
theorem eqSetC (a b:BS) (h8:a.bl.length=8) (g8:b.bl.length=8):CV prog 61 [.agg a.row,.agg b.row] (.bool (decide (a=b))):=by
 obtain⟨R,hR⟩:∃ R,decide (a=b)=R:=⟨_,rfl⟩
 rw[hR]
 have hrl:a.row.length=11:=qag _ h8
 have gl:b.row.length=11:=qag _ g8
 have ht:List.take 8 (List.map AV.str a.bl)=List.map AV.str a.bl:=List.take_of_length_le (by simp;omega)
 have gt:List.take 8 (List.map AV.str b.bl)=List.map AV.str b.bl:=List.take_of_length_le (by simp;omega)
 obtain⟨an,ak,af,ab⟩:=a
 obtain⟨bn,bK,bf,bb⟩:=b
 dsimp only at h8 g8 ht gt
 refine cvx func61 [] ntmps61 rfl rfl rfl ?_ (hca:=by simp)
 simp -implicitDefEqProofs [hrl,gl,ht,gt,h8,g8]
 simp only[BS.mk.injEq]at hR
 repeat' first
  | (refine(eqSA8C ab bb h8 g8).call ?_;simp -implicitDefEqProofs)
  | with_reducible intro _
  | with_reducible refine And.intro ?_ ?_
 all_goals grind
theorem eqSetsC (cs bs:List BS) (hl:cs.length≤2000000) (hA:∀ b∈cs,b.bl.length=8) (hB:∀ b∈bs,b.bl.length=8):CV prog 45 [.lst 11 (cs.map BS.row),.lst 11 (bs.map BS.row)] (.bool (decide (cs=bs))):=by
 obtain⟨R,hR⟩:∃ R,decide (cs=bs)=R:=⟨_,rfl⟩
 rw[hR]
 refine cvx func45 [] ntmps45 rfl rfl rfl ?_
 by_cases hlen:cs.length=bs.length
 ·simp -implicitDefEqProofs [hlen]
  refine ev_lp (X:=Nat) [0,1,5] [] (fun x=>[(5,.int .i64 x)]) (fun x=>[]) (fun x=>bs.length-x) (fun x=>x≤bs.length∧decide (cs.drop x=bs.drop x)=R) 0 (by simp[hR]) ?_
  rintro i ⟨hi,hd⟩
  by_cases h2:i<bs.length
  ·obtain⟨b,f1⟩:∃ b,cs[i]?=some b:=⟨_,List.getElem?_eq_getElem (by omega)⟩
   obtain⟨c,g1⟩:∃ c,bs[i]?=some c:=⟨_,List.getElem?_eq_getElem (by omega)⟩
   rw[dropAt f1,dropAt g1]at hd
   have h2':(i:Int)<bs.length:=by omega
   have hil:i<cs.length:=by omega
   have f0:cs[i]=b:=(List.getElem?_eq_some_iff.1 f1).2
   have g0:bs[i]=c:=(List.getElem?_eq_some_iff.1 g1).2
   have e1:=i64w ((i:Int)+1) (by omega) (by omega)
   have b8:=hA b (List.mem_of_getElem? f1)
   have c8:=hB c (List.mem_of_getElem? g1)
   have hrl:b.row.length=11:=qag _ b8
   have gl:c.row.length=11:=qag _ c8
   have ht:List.take 11 b.row=b.row:=List.take_of_length_le (by omega)
   have gt:List.take 11 c.row=c.row:=List.take_of_length_le (by omega)
   simp -implicitDefEqProofs [h2',h2,hil,hlen,f0,f1,g0,g1,hrl,gl,ht,gt]
   refine(eqSetC b c b8 c8).call ?_
   by_cases hbc:b=c
   ·subst hbc
    simp -implicitDefEqProofs
    exact nx (i+1) [] (by simp only[List.cons.injEq,true_and]at hd;exact⟨by omega,hd⟩) (h4:=by simp[e1])
   ·simp -implicitDefEqProofs [hbc]
    grind
  ·have:i=bs.length:=by omega
   subst this
   rw[List.drop_eq_nil_of_le (by omega),List.drop_eq_nil_of_le (by omega)]at hd
   simp at hd
   simp -implicitDefEqProofs [hd,hlen]
 ·have h':¬ (cs.length:Int)=bs.length:=by omega
  have:R=false:=by rw[← hR];simp;rintro rfl;exact hlen rfl
  simp -implicitDefEqProofs [hlen,h',this]
theorem eqBookC (cs bs:List BS) (hl:cs.length≤2000000) (hA:∀ b∈cs,b.bl.length=8) (hB:∀ b∈bs,b.bl.length=8):CV prog 23 [bk cs,bk bs] (.bool (decide (cs=bs))):=by
 refine cvx func23 [] ntmps23 rfl rfl rfl ?_ (hca:=by simp[bk])
 simp -implicitDefEqProofs [bk]
 refine(eqSetsC cs bs hl hA hB).call ?_
 by_cases h:cs=bs
 ·simp -implicitDefEqProofs [h]
 ·simp -implicitDefEqProofs [h]
theorem toBookO (bs:List BS) (hl:bs.length≤2000000) (hB:∀ b∈bs,b.bl.length=8):ACall prog 17 [bk bs] [] (fun r L'=>r=.agg [.sl 900 0 bs.length]∧L'=[(900,bkOb bs)]):=by
 refine acx func17 [] ntmps17 rfl rfl rfl ?_
 simp -implicitDefEqProofs [bk]
 refine qad [] (by kernel_rfl) (toSetsC bs hl hB) (by simp) (by simp) (by simp) (by simp) (by simp) ?_
 rintro r L' ⟨rfl,rfl⟩
 refine⟨[(900,900)],⟨by simp,by simp,by simp,by simp,by simp⟩,?_⟩
 simp -implicitDefEqProofs
theorem toOpC (o:BO):CV prog 36 [.agg (BO.row o)] (.agg (BO.row o)):=by
 refine cvx func36 [] ntmps36 rfl rfl rfl ?_ (hca:=by simp[BO.row]) (hcv:=by simp[BO.row])
 simp -implicitDefEqProofs [BO.row]
theorem phs_tup1 {id sz:Nat} {z:AV}:phs id sz (.tup [.agg [.nils],z]) (.tup [.agg [.sl id 0 0],z]):=phs_tup2 phs_agg1 (phs_refl _ _ _)
theorem noL_bs (b:BS):noL b.row=true:=by simp[BS.row,noL_strs]
theorem idoO (bs:List BS) (o:BO) (h:BkS bs) (ho:opS o):ACall prog 22 [bk bs,.agg (BO.row o)] [] (fun r L'=>r=.tup [.agg [.sl 903 0 (resB bs o).1.length],.int .i64 (resB bs o).2]∧L'=[(903,bkOb (resB bs o).1)]):=by
 have hc:=ok_eq bs ▸ ibookDoC bs o (by have:=h.1;omega) (fun b hb=>(h.2 b hb).1) (fun b hb=>by have:=(h.2 b hb).2.1;omega) ⟨by have:=ho.1;omega,by have:=ho.2;omega⟩
 refine ACall.ph 903 11 hc (by simp) ?_
 intro r L' hr
 unfold bkN at hr
 unfold resB
 split at hr
 ·rename_i hk
  obtain⟨id,hid,rfl,rfl⟩:=hr
  simp only[List.mem_singleton]at hid
  subst hid
  exact .inl (by rw[if_pos hk];exact⟨rfl,rfl⟩)
 ·rename_i hk
  obtain⟨rfl,rfl⟩:=hr
  exact .inr ⟨by simp,by simp,_,phs_tup1,by rw[if_neg hk];exact⟨rfl,rfl⟩⟩
theorem idoC' (bs:List BS) (o:BO) (h:BkS bs) (ho:opS o):CV prog 22 [bk bs,.agg (BO.row o)] (.tup [bk (resB bs o).1,.int .i64 (resB bs o).2]):=by
 refine CV.of_frz (idoO bs o h ho) ?_ (hca:=by simp[bk,BO.row]) (hcv:=by simp[bk])
 rintro r L' ⟨rfl,rfl⟩
 refine⟨by simp,by simp,by simp,?_⟩
 simp[frzAll,bk,bkOb]
 exact impA_refl _
theorem sdoC' (bs:List BS) (o:BO) (h:BkS bs) (ho:opS o):CV prog 34 [bk bs,.agg (BO.row o)] (.tup [bk (resB bs o).1,.int .i64 (resB bs o).2]) :=
 cv_of (pureC (xs:=[901,902]) (sbookDoC bs o (by have:=h.1;omega) (fun b hb=>(h.2 b hb).1) (fun b hb=>by have:=(h.2 b hb).2.1;omega) ⟨by have:=ho.1;omega,by have:=ho.2;omega⟩)) (hca:=by simp[bk,BO.row]) (hcv:=by simp[bk])
structure BK where
 sets:List BS
def BK.row (b:BK):List AV:=[.lst 11 (b.sets.map BS.row)]
def BkW (b:BK):Prop:=(∀ s∈b.sets,BsG s)∧b.sets.length≤maxLen
theorem str_shp {n:Nat} {avs:List AV} (h:Shp prog (n+1) 9 avs):∃ s:List UInt8,s.length≤maxLen∧avs=[.str s]:=shp_string underlying9 h
theorem flat_strs:∀ l:List (List UInt8),l.flatMap (fun t=>[AV.str t])=l.map AV.str
 | []=>rfl
 | a::r=>by simp[flat_strs r]
theorem bs_shp {n:Nat} {avs:List AV} (h:Shp prog (n+3) 80 avs):∃ s:BS,BsG s∧avs=s.row:=by
 obtain⟨a1,b1,rfl,h1,a2,b2,rfl,h2,a3,b3,rfl,h3,a4,b4,rfl,h4,rfl⟩:=shp_struct underlying80 h
 obtain⟨s1,m1,rfl⟩:=shp_string underlying9 h1
 obtain⟨z2,g2,rfl⟩:=shp_i64 h2
 obtain⟨s3,m3,rfl⟩:=shp_string underlying9 h3
 obtain⟨l,hl,rfl,hg⟩:=arr_ex (fun t:List UInt8=>[.str t]) (fun t=>t.length≤maxLen) _ (fun r hr=>str_shp hr) 8 a4 (shp_array underlying62 h4)
 refine⟨⟨s1,z2,s3,l⟩,⟨g2,hl,m1,m3,hg⟩,?_⟩
 simp only[BS.row,List.append_nil,List.cons_append,List.nil_append,flat_strs]
theorem bk_shp {avs:List AV} (h:Shp prog 8 24 avs):∃ b:BK,BkW b∧avs=b.row:=by
 obtain⟨a2,b2,rfl,h2,rfl⟩:=shp_struct underlying24 h
 obtain⟨e2,m2,rfl,k2⟩:=shp_slice underlying22 h2
 obtain⟨l2,rfl,g2⟩:=rows_ex BS.row BsG e2 fun r hr=>bs_shp (k2 r hr)
 have c1:prog.cellsOf 80=11:=by kernel_rfl
 refine⟨⟨l2⟩,⟨g2,by simpa using m2⟩,?_⟩
 rw[c1]
 rfl
theorem eqOpC (a b:BO):CV prog 46 [.agg (BO.row a),.agg (BO.row b)] (.bool (decide (a=b))):=by
 obtain⟨R,hR⟩:∃ R,decide (a=b)=R:=⟨_,rfl⟩
 rw[hR]
 obtain⟨a1,a2,a3,a4,a5⟩:=a
 obtain⟨b1,b2,b3,b4,b5⟩:=b
 simp only[BO.mk.injEq]at hR
 refine cvx func46 [] ntmps46 rfl rfl rfl ?_ (hca:=by simp[BO.row])
 simp -implicitDefEqProofs [BO.row]
 grind
theorem eqOpsC (cs bs:List BO) (hl:cs.length≤2000000):CV prog 24 [.lst 5 (cs.map BO.row),.lst 5 (bs.map BO.row)] (.bool (decide (cs=bs))):=by
 obtain⟨R,hR⟩:∃ R,decide (cs=bs)=R:=⟨_,rfl⟩
 rw[hR]
 refine cvx func24 [] ntmps24 rfl rfl rfl ?_
 by_cases hlen:cs.length=bs.length
 ·simp -implicitDefEqProofs [hlen]
  refine ev_lp (X:=Nat) [0,1,5] [] (fun x=>[(5,.int .i64 x)]) (fun x=>[]) (fun x=>bs.length-x) (fun x=>x≤bs.length∧decide (cs.drop x=bs.drop x)=R) 0 (by simp[hR]) ?_
  rintro i ⟨hi,hd⟩
  by_cases h2:i<bs.length
  ·obtain⟨b,f1⟩:∃ b,cs[i]?=some b:=⟨_,List.getElem?_eq_getElem (by omega)⟩
   obtain⟨c,g1⟩:∃ c,bs[i]?=some c:=⟨_,List.getElem?_eq_getElem (by omega)⟩
   rw[dropAt f1,dropAt g1]at hd
   have h2':(i:Int)<bs.length:=by omega
   have hil:i<cs.length:=by omega
   have f0:cs[i]=b:=(List.getElem?_eq_some_iff.1 f1).2
   have g0:bs[i]=c:=(List.getElem?_eq_some_iff.1 g1).2
   have e1:=i64w ((i:Int)+1) (by omega) (by omega)
   have hrl:b.row.length=5:=rfl
   have gl:c.row.length=5:=rfl
   have ht:List.take 5 b.row=b.row:=rfl
   have gt:List.take 5 c.row=c.row:=rfl
   simp -implicitDefEqProofs [h2',h2,hil,hlen,f0,f1,g0,g1,hrl,gl,ht,gt]
   refine(eqOpC b c).call ?_
   by_cases hbc:b=c
   ·subst hbc
    simp -implicitDefEqProofs
    exact nx (i+1) [] (by simp only[List.cons.injEq,true_and]at hd;exact⟨by omega,hd⟩) (h4:=by simp[e1])
   ·simp -implicitDefEqProofs [hbc]
    grind
  ·have:i=bs.length:=by omega
   subst this
   rw[List.drop_eq_nil_of_le (by omega),List.drop_eq_nil_of_le (by omega)]at hd
   simp at hd
   simp -implicitDefEqProofs [hd,hlen]
 ·have h':¬ (cs.length:Int)=bs.length:=by omega
  have:R=false:=by rw[← hR];simp;rintro rfl;exact hlen rfl
  simp -implicitDefEqProofs [hlen,h',this]
def mkOp (k:Nat):BO:=⟨((k:Nat):Int),mtB (k+1),mtB (k+2),((k+3:Nat):Int),mtB (k+4)⟩
def mkLk (k n:Nat):List BS:=(List.range n).map fun i=>mkRow (k+11 * i)
theorem mkLk_at {n i k:Nat} (h:i<n):(mkLk k n)[i]?=some (mkRow (k+11 * i)):=by simp[mkLk,h]
theorem qaa (k n:Nat):(mkLk k n).length=n:=by simp[mkLk]
theorem markSetsK (bs:List BS) (k:Nat) (hk:k≤500000000) (hl:bs.length≤2000000) (hB:∀ b∈bs,b.bl.length=8) :
  ACall prog 27 [.sl 1000 0 bs.length,.int .i64 k] [(1000,bkOb bs)] (fun r L'=>r=.int .i64 ((k:Int)+11 * (bs.length:Int))∧L'=[(1000,bkOb (mkLk k bs.length))]):=by
 obtain⟨n,hn⟩:∃ n,bs.length=n:=⟨_,rfl⟩
 rw[hn]at hl ⊢
 refine acx func27 [(13,[zI 0,zI 1,zI 2,zI 3,zJ 5 [1000] [],zI 6,zJ 4 [] [1000],zI 7,zI 8])] ntmps27 rfl rfl rfl ?_
 simp -implicitDefEqProofs
 refine ev_lp (X:=Nat×List BS) [0,1,5] [(1000,1000)] (fun x=>[(5,.int .i64 x.1),(1,.int .i64 ((k:Int)+11 * (x.1:Int)))]) (fun x=>[(1000,bkOb x.2)]) (fun x=>n-x.1)
  (fun x=>x.1≤n∧x.2.length=n∧(∀ b∈x.2,b.bl.length=8)∧∀ j,j<x.1→x.2[j]?=some (mkRow (k+11 * j))) (0,bs) ⟨by omega,hn,hB,by omega⟩ ?_ (he:=by simp[obOf])
 rintro⟨i,cs⟩ ⟨hi,hc,hb,hm⟩
 simp only at hi hc hb hm
 by_cases h2:i<n
 ·obtain⟨s,f1⟩:∃ s,cs[i]?=some s:=⟨_,List.getElem?_eq_getElem (by omega)⟩
  have h2':(i:Int)<n:=by omega
  have hil:i<cs.length:=by omega
  have e1:=i64w ((k:Int)+11 * (i:Int)+1) (by omega) (by omega)
  have e2:=i64w ((k:Int)+11 * (i:Int)+1+1) (by omega) (by omega)
  have e3:=i64w ((k:Int)+11 * (i:Int)+1+1+1) (by omega) (by omega)
  simp -implicitDefEqProofs [h2',hil]
  refine(qbu _ (k+11 * i) (by omega) (by omega)).call ?_
  simp -implicitDefEqProofs [hil,e1,e2,e3,f1,h2]
  refine(qbu _ (k+11 * i+2) (by omega) (by omega)).call ?_
  simp -implicitDefEqProofs [hil,e1,e2,e3,f1,h2]
  have f0:cs[i]=s:=(List.getElem?_eq_some_iff.1 f1).2
  have s8:s.bl.length=8:=hb s (List.mem_of_getElem? f1)
  have e5:(⟨11,(List.map BS.row cs).set i (AV.str (mtB (k+11 * i))::AV.int IntKind.i64 ((k:Int)+11 * (i:Int)+1)::AV.str (mtB (k+11 * i+2))::List.map AV.str cs[i].bl)⟩:Ob)=bkOb (cs.set i ⟨mtB (k+11 * i),(k:Int)+11 * i+1,mtB (k+11 * i+2),s.bl⟩):=by
   simp[bkOb,List.map_set,BS.row,f0]
  refine ev_lp (X:=Nat×List BS) [0,1,5,6] [(1000,1000)] (fun x=>[(6,.int .i64 x.1),(1,.int .i64 ((k:Int)+11 * (i:Int)+1+1+1+x.1))]) (fun x=>[(1000,bkOb x.2)]) (fun x=>8-x.1)
   (fun x=>x.1≤8∧x.2.length=n∧(∀ b∈x.2,b.bl.length=8)∧(∀ j,j<i→x.2[j]?=some (mkRow (k+11 * j)))∧∃ t,x.2[i]?=some t∧t.name=mtB (k+11 * i)∧t.kind=(k:Int)+11 * i+1∧t.frm=mtB (k+11 * i+2)∧∀ q,q<x.1→t.bl[q]?=some (mtB (k+11 * i+3+q)))
   (0,cs.set i ⟨mtB (k+11 * i),(k:Int)+11 * i+1,mtB (k+11 * i+2),s.bl⟩) ?_ ?_ (he:=by simp[obOf,e5])
  ·refine⟨by omega,by simp[hc],?_,?_,⟨mtB (k+11 * i),(k:Int)+11 * i+1,mtB (k+11 * i+2),s.bl⟩,?_,rfl,rfl,rfl,by simp⟩
   ·intro b hbm
    rcases List.mem_or_eq_of_mem_set hbm with h | rfl
    ·exact hb b h
    ·exact s8
   ·intro j hj
    rw[List.getElem?_set_ne (by omega)]
    exact hm j hj
   ·simp[hil]
  rintro⟨j,ds⟩ ⟨hj,hd,hb',hm',t,g1,g2,g3,g4,g5⟩
  simp only at hj hd hb' hm' g1 g5
  have t8:t.bl.length=8:=hb' t (List.mem_of_getElem? g1)
  have hil':i<ds.length:=by omega
  have g0:ds[i]=t:=(List.getElem?_eq_some_iff.1 g1).2
  by_cases h3:j<8
  ·have h3':(j:Int)<8:=by omega
   have e6:=i64w ((j:Int)+1) (by omega) (by omega)
   have e7:=i64w ((k:Int)+11 * (i:Int)+1+1+1+j+1) (by omega) (by omega)
   simp -implicitDefEqProofs [h3',hil',g0,g1,h2]
   refine(qbu _ (k+11 * i+3+j) (by omega) (by omega)).call ?_
   simp -implicitDefEqProofs [h3',hil',g0,g1,h2]
   refine⟨by omega,?_⟩
   have e9:=row_set t j (mtB (k+11 * i+3+j)) (by omega)
   refine nx (j+1,ds.set i { t with bl:=t.bl.set j (mtB (k+11 * i+3+j)) }) [(1000,1000)] ?_ (by simp only;omega) (h4:=?_)
   ·refine⟨by simp only;omega,by simp[hd],?_,?_,{ t with bl:=t.bl.set j (mtB (k+11 * i+3+j)) },by simp[hil'],g2,g3,g4,?_⟩
    ·intro b hbm
     rcases List.mem_or_eq_of_mem_set hbm with h | rfl
     ·exact hb' b h
     ·simpa using t8
    ·intro q hq
     simp only
     rw[List.getElem?_set_ne (by omega)]
     exact hm' q hq
    ·intro q hq
     simp only at hq ⊢
     by_cases hqj:q=j
     ·subst hqj
      simp[t8,h3]
     ·rw[List.getElem?_set_ne (by omega)]
      exact g5 q (by omega)
   ·have e10:(k:Int)+11 * (i:Int)+1+1+1+j+1=(k:Int)+11 * (i:Int)+1+1+1+(j+1):=by omega
    simp[obOf,e6,e7,e9]
    exact⟨by rw[e10],by simp[bkOb,List.map_set]⟩
  ·have:j=8:=by omega
   subst this
   simp -implicitDefEqProofs
   have ht:t=mkRow (k+11 * i):=by
    obtain⟨tn,tk,tf,tb⟩:=t
    simp only at g2 g3 g4 g5 t8
    have:tb=(List.range 8).map fun q=>mtB (k+11 * i+3+q):=by
     refine List.ext_getElem? fun q=>?_
     by_cases hq:q<8
     ·rw[g5 q hq]
      simp[hq]
     ·rw[List.getElem?_eq_none (by omega),List.getElem?_eq_none (by simp;omega)]
    subst this
    simp only[mkRow,BS.mk.injEq]
    exact⟨g2,by omega,g4,trivial⟩
   have e8:=i64w ((i:Int)+1) (by omega) (by omega)
   refine nx (i+1,ds) [(1000,1000)] ⟨by omega,hd,hb',?_⟩ (by simp only;omega) (h4:=?_)
   ·intro j hj
    by_cases hji:j=i
    ·subst hji
     exact ht ▸ g1
    ·exact hm' j (by simp only at hj;omega)
   ·have e10:(k:Int)+11 * (i:Int)+1+1+1+8=(k:Int)+11 * ((i:Int)+1):=by omega
    simp[obOf,e8]
    rw[e10]
 ·have:i=n:=by omega
  subst this
  have hcs:cs=mkLk k cs.length:=by
   refine List.ext_getElem? fun q=>?_
   by_cases hq:q<cs.length
   ·rw[hm q (by omega)]
    simp[mkLk,hq]
   ·rw[List.getElem?_eq_none (by omega),List.getElem?_eq_none (by simp[mkLk];omega)]
  simp -implicitDefEqProofs
  rw[hc]at hcs
  exact congrArg bkOb hcs
theorem markBookK (bs:List BS) (k:Nat) (hk:k≤500000000) (hl:bs.length≤2000000) (hB:∀ b∈bs,b.bl.length=8) :
  ACall prog 25 [.agg [.sl 1000 0 bs.length],.int .i64 k] [(1000,bkOb bs)] (fun r L'=>r=.int .i64 ((k:Int)+11 * (bs.length:Int))∧L'=[(1000,bkOb (mkLk k bs.length))]):=by
 refine acx func25 [] ntmps25 rfl rfl rfl ?_
 simp -implicitDefEqProofs
 refine qad [(1000,.whole 1000)] (by kernel_rfl) (markSetsK bs k hk hl hB) (by simp) (by simp) ⟨⟨bkOb bs,by simp,rfl,qac rfl (clR_bk bs)⟩,trivial⟩ (by simp) (by simp) ?_
 rintro r L' ⟨rfl,rfl⟩
 refine⟨[],⟨by simp,by simp,by simp,by simp,by simp⟩,?_⟩
 simp only[qaf]
 simp -implicitDefEqProofs
theorem heldSetsK (n k:Nat) (hk:k≤500000000) (hl:n≤2000000):CV prog 28 [.lst 11 ((mkLk k n).map BS.row),.int .i64 k] (.int .i64 ((k:Int)+11 * (n:Int))):=by
 have hn:=qaa k n
 refine cvx func28 [] ntmps28 rfl rfl rfl ?_
 simp -implicitDefEqProofs [hn]
 refine ev_lp (X:=Nat) [0,1,5] [] (fun x=>[(5,.int .i64 x),(1,.int .i64 ((k:Int)+11 * (x:Int)))]) (fun x=>[]) (fun x=>n-x) (fun x=>x≤n) 0 (by omega) ?_
 rintro i hi
 by_cases h2:i<n
 ·have h2':(i:Int)<n:=by omega
  have f1:=mkLk_at (k:=k) h2
  have hil:i<(mkLk k n).length:=by omega
  have f0:(mkLk k n)[i]=mkRow (k+11 * i):=(List.getElem?_eq_some_iff.1 f1).2
  have e1:=i64w ((k:Int)+11 * (i:Int)+1) (by omega) (by omega)
  have e2:=i64w ((k:Int)+11 * (i:Int)+1+1) (by omega) (by omega)
  have e3:=i64w ((k:Int)+11 * (i:Int)+1+1+1) (by omega) (by omega)
  have hr0:0<(mkRow (k+11 * i)).row.length:=by simp[mkRow_row]
  have hr1:(mkRow (k+11 * i)).row.length=11:=by simp[mkRow_row]
  simp -implicitDefEqProofs [h2',h2,hil,hn,f0,f1,hr1]
  refine(qbu _ (k+11 * i) (by omega) (by omega)).call ?_
  simp -implicitDefEqProofs [h2',h2,hil,hn,f0,f1,e1,e2,e3,mkRow_row]
  refine(qbu _ (k+11 * i+2) (by omega) (by omega)).call ?_
  simp -implicitDefEqProofs [h2',h2,hil,hn,f0,f1,e1,e2,e3,mkRow_row]
  refine ev_lp (X:=Nat) [0,1,5,6] [] (fun x=>[(6,.int .i64 x),(1,.int .i64 ((k:Int)+11 * (i:Int)+1+1+1+(x:Int)))]) (fun x=>[]) (fun x=>8-x) (fun x=>x≤8) 0 (by omega) ?_
  rintro j hj
  by_cases h3:j<8
  ·have h3':(j:Int)<8:=by omega
   have e6:=i64w ((j:Int)+1) (by omega) (by omega)
   have e7:=i64w ((k:Int)+11 * (i:Int)+1+1+1+j+1) (by omega) (by omega)
   have f2:=mkRow_at (k+11 * i) j h3
   simp -implicitDefEqProofs [h3',h3,h2,hn,f0,f1,f2,hr1]
   refine⟨by omega,?_⟩
   refine(qbu _ (k+11 * i+3+j) (by omega) (by omega)).call ?_
   simp -implicitDefEqProofs [h3',h3,h2,hn,f0,f1,f2,hr1]
   have e10:(k:Int)+11 * (i:Int)+1+1+1+j+1=(k:Int)+11 * (i:Int)+1+1+1+(j+1):=by omega
   refine nx (j+1) [] (by omega) (h4:=?_)
   simp[e6,e7]
   rw[e10]
  ·have:j=8:=by omega
   subst this
   have e8:=i64w ((i:Int)+1) (by omega) (by omega)
   have e10:(k:Int)+11 * (i:Int)+1+1+1+8=(k:Int)+11 * ((i:Int)+1):=by omega
   simp -implicitDefEqProofs
   refine nx (i+1) [] (by omega) (h4:=?_)
   simp[e8]
   rw[e10]
 ·have:i=n:=by omega
  subst this
  simp -implicitDefEqProofs [hn]
def mkOpsK (k n:Nat):List BO:=(List.range n).map fun i=>mkOp (k+5 * i)
theorem markOpsK (bs:List BO) (k:Nat) (hk:k≤500000000) (hl:bs.length≤2000000) :
  ACall prog 26 [.sl 1000 0 bs.length,.int .i64 k] [(1000,opsOb bs)] (fun r L'=>r=.int .i64 ((k:Int)+5 * (bs.length:Int))∧L'=[(1000,opsOb (mkOpsK k bs.length))]):=by
 obtain⟨n,hn⟩:∃ n,bs.length=n:=⟨_,rfl⟩
 rw[hn]at hl ⊢
 refine acx func26 [] ntmps26 rfl rfl rfl ?_
 simp -implicitDefEqProofs
 refine ev_lp (X:=Nat×List BO) [0,1,5] [(1000,1000)] (fun x=>[(5,.int .i64 x.1),(1,.int .i64 ((k:Int)+5 * (x.1:Int)))]) (fun x=>[(1000,opsOb x.2)]) (fun x=>n-x.1)
  (fun x=>x.1≤n∧x.2.length=n∧∀ j,j<x.1→x.2[j]?=some (mkOp (k+5 * j))) (0,bs) ⟨by omega,hn,by omega⟩ ?_ (he:=by simp[obOf,opsOb,qbt])
 rintro⟨i,cs⟩ ⟨hi,hc,hm⟩
 simp only at hi hc hm
 by_cases h2:i<n
 ·obtain⟨s,f1⟩:∃ s,cs[i]?=some s:=⟨_,List.getElem?_eq_getElem (by omega)⟩
  have h2':(i:Int)<n:=by omega
  have hil:i<cs.length:=by omega
  have f0:cs[i]=s:=(List.getElem?_eq_some_iff.1 f1).2
  have e0:=i64w ((i:Int)+1) (by omega) (by omega)
  have e1:=i64w ((k:Int)+5 * (i:Int)+1) (by omega) (by omega)
  have e2:=i64w ((k:Int)+5 * (i:Int)+1+1) (by omega) (by omega)
  have e3:=i64w ((k:Int)+5 * (i:Int)+1+1+1) (by omega) (by omega)
  have e4:=i64w ((k:Int)+5 * (i:Int)+1+1+1+1) (by omega) (by omega)
  have e5:=i64w ((k:Int)+5 * (i:Int)+1+1+1+1+1) (by omega) (by omega)
  simp -implicitDefEqProofs [h2',h2,hil,f0,f1,e1,e2,e3,e4,e5,ops_sz,ops_els,opsOb]
  have hfs:(cs.set i (mkOp (k+5 * i))).length=n:=by simp[hc]
  refine(qbu _ (k+5 * i+1) (by omega) (by omega)).call ?_
  simp -implicitDefEqProofs [h2',h2,hil,f0,f1,e1,e2,e3,e4,e5,ops_sz,ops_els,opsOb,BO.row]
  refine(qbu _ (k+5 * i+2) (by omega) (by omega)).call ?_
  simp -implicitDefEqProofs [h2',h2,hil,f0,f1,e1,e2,e3,e4,e5,ops_sz,ops_els,opsOb,BO.row]
  refine(qbu _ (k+5 * i+4) (by omega) (by omega)).call ?_
  simp -implicitDefEqProofs [h2',h2,hil,f0,f1,e1,e2,e3,e4,e5,ops_sz,ops_els,opsOb,BO.row]
  refine nx (i+1,cs.set i (mkOp (k+5 * i))) [(1000,1000)] ⟨by simp only;omega,hfs,?_⟩ (by simp only;omega) (h4:=?_)
  ·intro j hj
   simp only at hj ⊢
   by_cases hji:j=i
   ·subst hji
    simp[hil]
   ·rw[List.getElem?_set_ne (by omega)]
    exact hm j (by omega)
  ·have e10:(k:Int)+5 * (i:Int)+1+1+1+1+1=(k:Int)+5 * ((i:Int)+1):=by omega
   have e11:(k:Int)+5 * (i:Int)+1+1+1=(k:Int)+5 * (i:Int)+3:=by omega
   simp[obOf,e0,opsOb,List.map_set,BO.row,mkOp,e11,qbt]
   rw[show(k:Int)+5 * (i:Int)+3+1+1=(k:Int)+5 * ((i:Int)+1) by omega]
 ·have:i=n:=by omega
  subst this
  have hcs:cs=mkOpsK k cs.length:=by
   refine List.ext_getElem? fun q=>?_
   by_cases hq:q<cs.length
   ·rw[hm q (by omega)]
    simp[mkOpsK,hq]
   ·rw[List.getElem?_eq_none (by omega),List.getElem?_eq_none (by simp[mkOpsK];omega)]
  simp -implicitDefEqProofs
  rw[hc]at hcs
  exact congrArg opsOb hcs
def BkM (bs:List BS):Prop:=∀ b∈bs,b.bl.length=8∧b.name.length≤1048576∧b.frm.length≤1048576
def TrM (t:TR):Prop:=BkM t.base∧t.base.length≤1048576∧(∀ o∈t.since,opS o)∧t.since.length≤1048576
theorem newB_gM {bs:List BS} {s:BS} (h:BkM bs) (hs:s.bl.length=8∧s.name.length≤1048576∧s.frm.length≤1048576):BkM (newB bs s).1:=fun b hb=>by
 rcases newB_mem hb with h1 | rfl
 ·exact h b h1
 ·exact hs
theorem doB_gM {bs:List BS} {o:BO} (h:BkM bs) (ho:opS o):BkM (doB bs o).1:=by
 have hg:∀ (i:Nat) t,bs[i]?=some t→t.bl.length=8∧t.name.length≤1048576∧t.frm.length≤1048576:=fun i t ht=>h _ (List.mem_of_getElem? ht)
 unfold doB
 split
 ·exact newB_gM h ⟨rfl,ho.1,by simp⟩
 ·split
  ·exact h
  ·split
   ·exact h
   ·split
    ·rename_i t ht
     have:=hg _ _ ht
     split
     ·unfold killB
      split
      ·split
       ·exact h
       ·intro b hb
        simp only[List.mem_append]at hb
        rcases hb with hb | hb
        ·exact h _ (List.mem_of_mem_take hb)
        ·exact h _ (List.mem_of_mem_drop hb)
      ·exact h
     ·split
      ·unfold putB
       split
       ·rename_i t2 ht2
        have:=hg _ _ ht2
        split
        ·exact h
        ·split
         ·exact h
         ·intro b hb
          rcases mem_set hb with hb | rfl
          ·exact h _ hb
          ·exact⟨by simp[this.1],this.2⟩
       ·exact h
      ·split
       ·unfold backB
        split
        ·rename_i t2 ht2
         have h2:=hg _ _ ht2
         split
         ·exact h
         ·split
          ·rename_i u hu
           have h3:=hg _ _ hu
           split
           ·exact h
           ·intro b hb
            rcases mem_set hb with hb | rfl
            ·exact h _ hb
            ·exact⟨h3.1,h2.2⟩
          ·exact h
        ·exact h
       ·split
        ·split
         ·exact h
         ·exact newB_gM h ⟨this.1,ho.2,this.2.1⟩
        ·split
         ·exact h
         ·exact newB_gM h ⟨this.1,ho.2,this.2.1⟩
    ·exact h
theorem resB_gM {bs:List BS} {o:BO} (h:BkM bs) (ho:opS o):BkM (resB bs o).1:=by
 unfold resB;split
 ·exact doB_gM h ho
 ·simp[BkM]
theorem nth_goodM {t:TR} (h:TrM t):∀ k,BkM (nthB t k)∧(nthB t k).length≤t.base.length+k
 | 0=>⟨h.1,by simp[nth_zero]⟩
 | k+1=>by
  obtain⟨h1,h2⟩:=nth_goodM h k
  cases hk:t.since[k]? with
  | none =>
   have:nthB t (k+1)=nthB t k:=by unfold nthB;rw[List.take_add_one,hk];simp
   rw[this];exact⟨h1,by omega⟩
  | some o =>
   rw[nth_step t hk]
   have:=resB_len (nthB t k) o
   exact⟨resB_gM h1 (h.2.2.1 o (List.mem_of_getElem? hk)),by omega⟩
def bqR:Nat→List (List BS)→List (List AV)
 | _,[]=>[]
 | n,b::r=>[.sl n 0 b.length]::bqR (n+1) r
def bqL:Nat→List (List BS)→List (Nat×Ob)
 | _,[]=>[]
 | n,b::r=>(n,bkOb b)::bqL (n+1) r
def bqI:Nat→List (List BS)→List (Nat×Nat)
 | _,[]=>[]
 | n,_::r=>(n,n)::bqI (n+1) r
theorem upto9 {α:Type} (l:List α) (h:l.length≤9):l=[]∨(∃ a,l=[a])∨(∃ a b,l=[a,b])∨(∃ a b c,l=[a,b,c])∨(∃ a b c d,l=[a,b,c,d])∨(∃ a b c d e,l=[a,b,c,d,e]) ∨
  (∃ a b c d e f,l=[a,b,c,d,e,f])∨(∃ a b c d e f g,l=[a,b,c,d,e,f,g])∨(∃ a b c d e f g i,l=[a,b,c,d,e,f,g,i])∨∃ a b c d e f g i j,l=[a,b,c,d,e,f,g,i,j]:=by
 match l,h with
 | [],_=>simp
 | [_],_=>simp
 | [_,_],_=>simp
 | [_,_,_],_=>simp
 | [_,_,_,_],_=>simp
 | [_,_,_,_,_],_=>simp
 | [_,_,_,_,_,_],_=>simp
 | [_,_,_,_,_,_,_],_=>simp
 | [_,_,_,_,_,_,_,_],_=>simp
 | [_,_,_,_,_,_,_,_,_],_=>simp
 | _::_::_::_::_::_::_::_::_::_::_,h=>simp at h
def trK (l:List (List BS)) (r:AV) (L':List (Nat×Ob)):Prop:=∃ f x,f.length≤8∧l=f++[x]∧r=.sl 37 0 l.length∧L'=(37,⟨1,bqR 2000 f++[[.sl 35 0 x.length]]⟩)::(bqL 2000 f++[(35,bkOb x)])
def trQ9 (l:List (List BS)) (r:AV) (L':List (Nat×Ob)):Prop:=r=.sl 900 0 l.length∧L'=(900,⟨1,bqR 2000 l⟩)::bqL 2000 l
theorem iOkM (bs:List BS) (hb:BkM bs) (hl:bs.length≤1048576):CV prog 19 [bk bs] (.bool (qat bs)) :=
 cv_of (ok_eq bs ▸ ibookOkC bs (by omega) (fun b h=>(hb b h).1) (fun b h=>by have:=(hb b h).2.1;omega)) (hca:=by simp[bk])
theorem sOkM (bs:List BS) (hb:BkM bs) (hl:bs.length≤1048576):CV prog 15 [bk bs] (.bool (qat bs)) :=
 cv_of (bookOkC bs (by omega) (fun b h=>(hb b h).1) (fun b h=>by have:=(hb b h).2.1;omega)) (hca:=by simp[bk])
theorem trailNot {t:TR} (h:¬ okT t):booksB t=[]:=by
 unfold booksB
 rw[if_neg (id h:¬ (qat t.base=true∧t.since.length≤8∧0≤t.sure∧t.sure≤t.since.length))]
theorem ok_len6 {bs:List BS} (h:qat bs=true):bs.length≤6:=by
 have:=(okB_iff.1 h).1
 omega
set_option maxHeartbeats 2000000 in
theorem itrailO (t:TR) (hg:TrM t) (hy:okT t):ACall prog 7 [.agg t.row] [] (trK (booksB t)):=by
 have hg0:=hg
 obtain⟨hb,hbl,hs,hsl⟩:=hg
 obtain⟨hok,h8,h0,hle⟩:=id hy
 have h8':¬ (8:Int)<t.since.length:=by omega
 have h6:=ok_len6 hok
 rw[booksB_acc hy]
 have c1:=iOkM t.base hb hbl
 have c2:=cv_of (withinC t.sure 0 t.since.length)
 simp only[bk]at c1
 refine acx func7 [(11,[zJ 0 [3] [],zJ 1 [] [3],zJ 2 [1] [3],zJ 3 [] [3,1],zJ 4 [] [3],zJ 5 [] [3],zI 6,zI 7,zI 8,zI 9,zI 10])] ntmps7 rfl rfl rfl ?_
 simp -implicitDefEqProofs [TR.row]
 refine c1.call ?_
 simp -implicitDefEqProofs [hok,h8,h8']
 refine c2.call ?_
 simp -implicitDefEqProofs [h0,hle]
 refine ev_sw (sw_ph 4 1 (by simp) (by simp)) ?_
 refine ev_lo (X:=Nat) [1,3,4,5] [(1,1),(3,3),(4,900)] (fun k=>[(4,.sl 900 0 (accT t k).length),(5,.int .i64 k)]) (fun k=>(1,⟨3,[t.row]⟩)::(3,⟨1,[bkRow (nthB t k)]⟩)::(900,⟨1,bqR 2000 (accT t k)⟩)::bqL 2000 (accT t k)) (fun k=>t.since.length-k) (fun k=>k≤t.since.length) 0 (by simp) ?_ (he:=by simp[obOf,accT,TR.row,nth_zero,bkRow,bqR,bqL])
 rintro k hk
 obtain⟨g1,g2⟩:=nth_goodM hg0 k
 have hal:=accT_len t k
 have hst:=accT_step t k
 have e2:=i64w ((k:Int)+1) (by omega) (by omega)
 have co:=ownC2 (nthB t k) (by omega)
 simp only[bk]at co
 generalize hB:accT t k=l at *
 have nx1:=fun o (ho:t.since[k]?=some o)=>idoC' (nthB t k) o ⟨by omega,g1⟩ (hs o (List.mem_of_getElem? ho))
 by_cases hks:t.sure≤k
 ·rw[if_pos (by omega)]at hst
  by_cases hke:k=t.since.length
  ·subst hke
   rcases upto9 l (by omega)with rfl | ⟨a,rfl⟩ | ⟨a,b,rfl⟩ | ⟨a,b,c,rfl⟩ | ⟨a,b,c,d,rfl⟩ | ⟨a,b,c,d,e,rfl⟩ | ⟨a,b,c,d,e,f,rfl⟩ | ⟨a,b,c,d,e,f,g,rfl⟩ | ⟨a,b,c,d,e,f,g,i,rfl⟩ | ⟨a,b,c,d,e,f,g,i,j,rfl⟩
   all_goals
    simp -implicitDefEqProofs [TR.row,hks,bkRow,bqR,bqL]
    refine qad [] (by kernel_rfl) co (by simp) (by simp) trivial (by simp) (by simp) ?_
    rintro r L' ⟨rfl,rfl⟩
    refine⟨[(900,35)],⟨by simp,by simp,by simp,by simp,by simp⟩,?_⟩
    simp only[qaf]
    simp -implicitDefEqProofs [TR.row]
    refine⟨_,?_,_,_,?_,hst,?_,rfl⟩
    ·simp[bqR,bqL]
    ·simp at hal ⊢
     try omega
    ·rw[hst]
     rfl
  ·obtain⟨o,e0⟩:∃ o,t.since[k]'(by omega)=o:=⟨_,rfl⟩
   have hlt:k<t.since.length:=by omega
   have e1:t.since[k]?=some o:=by rw[← e0];exact List.getElem?_eq_getElem (by omega)
   have hke':¬ (k:Int)=t.since.length:=by omega
   have hnx:=nth_step t e1
   have cd:=nx1 o e1
   simp only[bk,BO.row]at cd
   rcases upto9 l (by omega)with rfl | ⟨a,rfl⟩ | ⟨a,b,rfl⟩ | ⟨a,b,c,rfl⟩ | ⟨a,b,c,d,rfl⟩ | ⟨a,b,c,d,e,rfl⟩ | ⟨a,b,c,d,e,f,rfl⟩ | ⟨a,b,c,d,e,f,g,rfl⟩ | ⟨a,b,c,d,e,f,g,i,rfl⟩ | ⟨a,b,c,d,e,f,g,i,j,rfl⟩
   all_goals
    simp -implicitDefEqProofs [TR.row,hks,bkRow,bqR,bqL,hke']
    refine qad [] (by kernel_rfl) co (by simp) (by simp) trivial (by simp) (by simp) ?_
    rintro r L' ⟨rfl,rfl⟩
    refine⟨[(900,35)],⟨by simp,by simp,by simp,by simp,by simp⟩,?_⟩
    simp only[qaf]
    simp -implicitDefEqProofs [TR.row,hke',e0,e1,hlt,BO.row]
    refine cd.call ?_
    simp -implicitDefEqProofs
    exact nx (k+1) ([(1,1),(3,3),(37,900)]++(bqI 2000 (accT t k)++[(35,2000+(accT t k).length)])) (by omega) (by omega) (h3:=by simp[hB,bqI]) (h4:=by simp[obOf,e2,hB,hst,hnx,bqI,bqR,bqL,bkRow,TR.row])
 ·rw[if_neg (by omega),List.append_nil]at hst
  have hlt:k<t.since.length:=by omega
  obtain⟨o,e0⟩:∃ o,t.since[k]=o:=⟨_,rfl⟩
  have e1:t.since[k]?=some o:=by rw[← e0];exact List.getElem?_eq_getElem (by omega)
  have hke':¬ (k:Int)=t.since.length:=by omega
  have hnx:=nth_step t e1
  have cd:=nx1 o e1
  simp only[bk,BO.row]at cd
  have hl0:l=[]:=by
   rw[← hB]
   simp[accT]
   omega
  subst hl0
  simp -implicitDefEqProofs [TR.row,hks,bkRow,bqR,bqL,hke',e0,e1,hlt,BO.row]
  refine cd.call ?_
  simp -implicitDefEqProofs
  exact nx (k+1) [(1,1),(3,3),(900,900)] (by omega) (by omega) (h4:=by simp[obOf,e2,hB,hst,hnx,bqR,bqL,bkRow,TR.row])
theorem itrail9 (t:TR) (hg:TrM t) (hy:okT t):ACall prog 7 [.agg t.row] [] (trQ9 (booksB t)):=by
 refine(itrailO t hg hy).can ?_
 rintro r L' ⟨f,x,hf,hl,rfl,rfl⟩
 rw[hl]
 obtain⟨φ,hφ⟩:∃ φ,φ=(37,900)::(bqI 2000 f++[(35,2000+f.length)]):=⟨_,rfl⟩
 rcases upto9 f (by omega)with rfl | ⟨a,rfl⟩ | ⟨a,b,rfl⟩ | ⟨a,b,c,rfl⟩ | ⟨a,b,c,d,rfl⟩ | ⟨a,b,c,d,e,rfl⟩ | ⟨a,b,c,d,e,f,rfl⟩ | ⟨a,b,c,d,e,f,g,rfl⟩ | ⟨a,b,c,d,e,f,g,i,rfl⟩ | ⟨a,b,c,d,e,f,g,i,j,rfl⟩
 all_goals exact⟨φ,by rw[hφ];simp[bqI,bqL],by rw[hφ];simp[bqI],by simp,by rw[hφ];simp[bqI],by rw[hφ];simp,by rw[hφ];simp[bqI,bqR,bqL,obOf]⟩
def mkTo:Nat→Nat→List (List BS)→List (List BS)
 | 0,_,l=>l
 | _+1,_,[]=>[]
 | i+1,k,b::r=>mkLk k b.length::mkTo i (k+11 * b.length) r
def kAt:Nat→Nat→List (List BS)→Nat
 | 0,k,_=>k
 | _+1,k,[]=>k
 | i+1,k,b::r=>kAt i (k+11 * b.length) r
theorem bqL_nod (l:List (List BS)) (h9:l.length≤9) (o:Ob):(((1000,o)::bqL 1001 l).map (·.1)).Nodup:=by
 rcases upto9 l h9 with rfl | ⟨a,rfl⟩ | ⟨a,b,rfl⟩ | ⟨a,b,c,rfl⟩ | ⟨a,b,c,d,rfl⟩ | ⟨a,b,c,d,e,rfl⟩ | ⟨a,b,c,d,e,f,rfl⟩ | ⟨a,b,c,d,e,f,g,rfl⟩ | ⟨a,b,c,d,e,f,g,i,rfl⟩ | ⟨a,b,c,d,e,f,g,i,j,rfl⟩ <;> simp[bqL]
theorem nine {i:Nat} (h:i≤9):i=0∨i=1∨i=2∨i=3∨i=4∨i=5∨i=6∨i=7∨i=8∨i=9:=by omega
set_option maxHeartbeats 4000000 in
theorem markBksO (l:List (List BS)) (k:Nat) (h9:l.length≤9) (hk:k≤100000000) (hL:∀ b∈l,b.length≤100∧∀ x∈b,x.bl.length=8) :
  ACall prog 11 [.sl 1000 0 l.length,.int .i64 k] ((1000,⟨1,bqR 1001 l⟩)::bqL 1001 l) (fun r L'=>r=.int .i64 (kAt l.length k l:Nat)∧L'=(1000,⟨1,bqR 1001 l⟩)::bqL 1001 (mkTo l.length k l)):=by
 obtain⟨Kf,hK⟩:∃ Kf:Nat→Nat,∀ i,Kf i=kAt i k l:=⟨_,fun _=>rfl⟩
 obtain⟨Mf,hM⟩:∃ Mf:Nat→List (Nat×Ob),∀ i,Mf i=(1000,⟨1,bqR 1001 l⟩)::bqL 1001 (mkTo i k l):=⟨_,fun _=>rfl⟩
 obtain⟨φ,hφ⟩:∃ φ,φ=(1000,1000)::bqI 1001 l:=⟨_,rfl⟩
 obtain⟨n,hn⟩:∃ n,n=l.length:=⟨_,rfl⟩
 have cm:=fun b (hb:b∈l) (m:Nat) (hm:m≤200000000)=>markSetsK b m (by omega) (by have:=(hL b hb).1;omega) (hL b hb).2
 have hlen:=fun b (hb:b∈l)=>(hL b hb).1
 refine acx func11 [] ntmps11 rfl rfl rfl ?_ (hL:=bqL_nod l h9 _)
 rcases upto9 l h9 with rfl | ⟨b0,rfl⟩ | ⟨b0,b1,rfl⟩ | ⟨b0,b1,b2,rfl⟩ | ⟨b0,b1,b2,b3,rfl⟩ | ⟨b0,b1,b2,b3,b4,rfl⟩ | ⟨b0,b1,b2,b3,b4,b5,rfl⟩ | ⟨b0,b1,b2,b3,b4,b5,b6,rfl⟩ | ⟨b0,b1,b2,b3,b4,b5,b6,b7,rfl⟩ | ⟨b0,b1,b2,b3,b4,b5,b6,b7,b8,rfl⟩
 ·simp -implicitDefEqProofs [bqL,bqR]
  simp only[List.length_cons,List.length_nil]at hn
  refine ev_lo (X:=Nat) [0,1,5] φ (fun i=>[(5,.int .i64 i),(1,.int .i64 (Kf i:Nat))]) Mf (fun i=>n-i) (fun i=>i≤n) 0 (by omega) ?_ (h0:=by rw[hφ];simp[bqI]) (he:=by rw[hφ];simp[hM,hK,kAt,mkTo,bqL,bqR,bqI,obOf])
  rintro i hi
  rcases nine (show i≤9 by omega)with rfl | rfl | rfl | rfl | rfl | rfl | rfl | rfl | rfl | rfl
  all_goals try (exfalso;omega)
  ·simp -implicitDefEqProofs [hM,hK,kAt,mkTo,bqL,bqR]
 ·simp -implicitDefEqProofs [bqL,bqR]
  simp only[List.length_cons,List.length_nil]at hn
  refine ev_lo (X:=Nat) [0,1,5] φ (fun i=>[(5,.int .i64 i),(1,.int .i64 (Kf i:Nat))]) Mf (fun i=>n-i) (fun i=>i≤n) 0 (by omega) ?_ (h0:=by rw[hφ];simp[bqI]) (he:=by rw[hφ];simp[hM,hK,kAt,mkTo,bqL,bqR,bqI,obOf])
  rintro i hi
  have l0:=hlen b0 (by simp)
  rcases nine (show i≤9 by omega)with rfl | rfl | rfl | rfl | rfl | rfl | rfl | rfl | rfl | rfl
  all_goals try (exfalso;omega)
  ·have c:=cm b0 (by simp) (k) (by omega)
   try simp only[Int.natCast_add,Int.natCast_mul,Int.cast_ofNat_Int]at c
   simp -implicitDefEqProofs [hM,hK,kAt,mkTo,bqL,bqR]
   refine qad [(1000,.whole 1001)] (by kernel_rfl) c (by simp) (by simp) (by simp[bkOb];exact qac rfl (by simp)) (by simp) (by simp) ?_
   rintro r L' ⟨rfl,rfl⟩
   refine⟨[],⟨by simp,by simp,by simp,by simp,by simp⟩,?_⟩
   simp only[qaf]
   simp -implicitDefEqProofs
   exact nx 1 φ (by omega) (by omega) (h3:=by rw[hφ];simp[bqI]) (h4:=by rw[hφ];simp[hM,hK,kAt,mkTo,bqL,bqR,bqI,obOf,qaa])
  ·simp -implicitDefEqProofs [hM,hK,kAt,mkTo,bqL,bqR]
 ·simp -implicitDefEqProofs [bqL,bqR]
  simp only[List.length_cons,List.length_nil]at hn
  refine ev_lo (X:=Nat) [0,1,5] φ (fun i=>[(5,.int .i64 i),(1,.int .i64 (Kf i:Nat))]) Mf (fun i=>n-i) (fun i=>i≤n) 0 (by omega) ?_ (h0:=by rw[hφ];simp[bqI]) (he:=by rw[hφ];simp[hM,hK,kAt,mkTo,bqL,bqR,bqI,obOf])
  rintro i hi
  have l0:=hlen b0 (by simp)
  have l1:=hlen b1 (by simp)
  rcases nine (show i≤9 by omega)with rfl | rfl | rfl | rfl | rfl | rfl | rfl | rfl | rfl | rfl
  all_goals try (exfalso;omega)
  ·have c:=cm b0 (by simp) (k) (by omega)
   try simp only[Int.natCast_add,Int.natCast_mul,Int.cast_ofNat_Int]at c
   simp -implicitDefEqProofs [hM,hK,kAt,mkTo,bqL,bqR]
   refine qad [(1000,.whole 1001)] (by kernel_rfl) c (by simp) (by simp) (by simp[bkOb];exact qac rfl (by simp)) (by simp) (by simp) ?_
   rintro r L' ⟨rfl,rfl⟩
   refine⟨[],⟨by simp,by simp,by simp,by simp,by simp⟩,?_⟩
   simp only[qaf]
   simp -implicitDefEqProofs
   exact nx 1 φ (by omega) (by omega) (h3:=by rw[hφ];simp[bqI]) (h4:=by rw[hφ];simp[hM,hK,kAt,mkTo,bqL,bqR,bqI,obOf,qaa])
  ·have c:=cm b1 (by simp) (k+11 * b0.length) (by omega)
   try simp only[Int.natCast_add,Int.natCast_mul,Int.cast_ofNat_Int]at c
   simp -implicitDefEqProofs [hM,hK,kAt,mkTo,bqL,bqR]
   refine qad [(1000,.whole 1002)] (by kernel_rfl) c (by simp) (by simp) (by simp[bkOb];exact qac rfl (by simp)) (by simp) (by simp) ?_
   rintro r L' ⟨rfl,rfl⟩
   refine⟨[],⟨by simp,by simp,by simp,by simp,by simp⟩,?_⟩
   simp only[qaf]
   simp -implicitDefEqProofs
   exact nx 2 φ (by omega) (by omega) (h3:=by rw[hφ];simp[bqI]) (h4:=by rw[hφ];simp[hM,hK,kAt,mkTo,bqL,bqR,bqI,obOf,qaa])
  ·simp -implicitDefEqProofs [hM,hK,kAt,mkTo,bqL,bqR]
 ·simp -implicitDefEqProofs [bqL,bqR]
  simp only[List.length_cons,List.length_nil]at hn
  refine ev_lo (X:=Nat) [0,1,5] φ (fun i=>[(5,.int .i64 i),(1,.int .i64 (Kf i:Nat))]) Mf (fun i=>n-i) (fun i=>i≤n) 0 (by omega) ?_ (h0:=by rw[hφ];simp[bqI]) (he:=by rw[hφ];simp[hM,hK,kAt,mkTo,bqL,bqR,bqI,obOf])
  rintro i hi
  have l0:=hlen b0 (by simp)
  have l1:=hlen b1 (by simp)
  have l2:=hlen b2 (by simp)
  rcases nine (show i≤9 by omega)with rfl | rfl | rfl | rfl | rfl | rfl | rfl | rfl | rfl | rfl
  all_goals try (exfalso;omega)
  ·have c:=cm b0 (by simp) (k) (by omega)
   try simp only[Int.natCast_add,Int.natCast_mul,Int.cast_ofNat_Int]at c
   simp -implicitDefEqProofs [hM,hK,kAt,mkTo,bqL,bqR]
   refine qad [(1000,.whole 1001)] (by kernel_rfl) c (by simp) (by simp) (by simp[bkOb];exact qac rfl (by simp)) (by simp) (by simp) ?_
   rintro r L' ⟨rfl,rfl⟩
   refine⟨[],⟨by simp,by simp,by simp,by simp,by simp⟩,?_⟩
   simp only[qaf]
   simp -implicitDefEqProofs
   exact nx 1 φ (by omega) (by omega) (h3:=by rw[hφ];simp[bqI]) (h4:=by rw[hφ];simp[hM,hK,kAt,mkTo,bqL,bqR,bqI,obOf,qaa])
  ·have c:=cm b1 (by simp) (k+11 * b0.length) (by omega)
   try simp only[Int.natCast_add,Int.natCast_mul,Int.cast_ofNat_Int]at c
   simp -implicitDefEqProofs [hM,hK,kAt,mkTo,bqL,bqR]
   refine qad [(1000,.whole 1002)] (by kernel_rfl) c (by simp) (by simp) (by simp[bkOb];exact qac rfl (by simp)) (by simp) (by simp) ?_
   rintro r L' ⟨rfl,rfl⟩
   refine⟨[],⟨by simp,by simp,by simp,by simp,by simp⟩,?_⟩
   simp only[qaf]
   simp -implicitDefEqProofs
   exact nx 2 φ (by omega) (by omega) (h3:=by rw[hφ];simp[bqI]) (h4:=by rw[hφ];simp[hM,hK,kAt,mkTo,bqL,bqR,bqI,obOf,qaa])
  ·have c:=cm b2 (by simp) (k+11 * b0.length+11 * b1.length) (by omega)
   try simp only[Int.natCast_add,Int.natCast_mul,Int.cast_ofNat_Int]at c
   simp -implicitDefEqProofs [hM,hK,kAt,mkTo,bqL,bqR]
   refine qad [(1000,.whole 1003)] (by kernel_rfl) c (by simp) (by simp) (by simp[bkOb];exact qac rfl (by simp)) (by simp) (by simp) ?_
   rintro r L' ⟨rfl,rfl⟩
   refine⟨[],⟨by simp,by simp,by simp,by simp,by simp⟩,?_⟩
   simp only[qaf]
   simp -implicitDefEqProofs
   exact nx 3 φ (by omega) (by omega) (h3:=by rw[hφ];simp[bqI]) (h4:=by rw[hφ];simp[hM,hK,kAt,mkTo,bqL,bqR,bqI,obOf,qaa])
  ·simp -implicitDefEqProofs [hM,hK,kAt,mkTo,bqL,bqR]
 ·simp -implicitDefEqProofs [bqL,bqR]
  simp only[List.length_cons,List.length_nil]at hn
  refine ev_lo (X:=Nat) [0,1,5] φ (fun i=>[(5,.int .i64 i),(1,.int .i64 (Kf i:Nat))]) Mf (fun i=>n-i) (fun i=>i≤n) 0 (by omega) ?_ (h0:=by rw[hφ];simp[bqI]) (he:=by rw[hφ];simp[hM,hK,kAt,mkTo,bqL,bqR,bqI,obOf])
  rintro i hi
  have l0:=hlen b0 (by simp)
  have l1:=hlen b1 (by simp)
  have l2:=hlen b2 (by simp)
  have l3:=hlen b3 (by simp)
  rcases nine (show i≤9 by omega)with rfl | rfl | rfl | rfl | rfl | rfl | rfl | rfl | rfl | rfl
  all_goals try (exfalso;omega)
  ·have c:=cm b0 (by simp) (k) (by omega)
   try simp only[Int.natCast_add,Int.natCast_mul,Int.cast_ofNat_Int]at c
   simp -implicitDefEqProofs [hM,hK,kAt,mkTo,bqL,bqR]
   refine qad [(1000,.whole 1001)] (by kernel_rfl) c (by simp) (by simp) (by simp[bkOb];exact qac rfl (by simp)) (by simp) (by simp) ?_
   rintro r L' ⟨rfl,rfl⟩
   refine⟨[],⟨by simp,by simp,by simp,by simp,by simp⟩,?_⟩
   simp only[qaf]
   simp -implicitDefEqProofs
   exact nx 1 φ (by omega) (by omega) (h3:=by rw[hφ];simp[bqI]) (h4:=by rw[hφ];simp[hM,hK,kAt,mkTo,bqL,bqR,bqI,obOf,qaa])
  ·have c:=cm b1 (by simp) (k+11 * b0.length) (by omega)
   try simp only[Int.natCast_add,Int.natCast_mul,Int.cast_ofNat_Int]at c
   simp -implicitDefEqProofs [hM,hK,kAt,mkTo,bqL,bqR]
   refine qad [(1000,.whole 1002)] (by kernel_rfl) c (by simp) (by simp) (by simp[bkOb];exact qac rfl (by simp)) (by simp) (by simp) ?_
   rintro r L' ⟨rfl,rfl⟩
   refine⟨[],⟨by simp,by simp,by simp,by simp,by simp⟩,?_⟩
   simp only[qaf]
   simp -implicitDefEqProofs
   exact nx 2 φ (by omega) (by omega) (h3:=by rw[hφ];simp[bqI]) (h4:=by rw[hφ];simp[hM,hK,kAt,mkTo,bqL,bqR,bqI,obOf,qaa])
  ·have c:=cm b2 (by simp) (k+11 * b0.length+11 * b1.length) (by omega)
   try simp only[Int.natCast_add,Int.natCast_mul,Int.cast_ofNat_Int]at c
   simp -implicitDefEqProofs [hM,hK,kAt,mkTo,bqL,bqR]
   refine qad [(1000,.whole 1003)] (by kernel_rfl) c (by simp) (by simp) (by simp[bkOb];exact qac rfl (by simp)) (by simp) (by simp) ?_
   rintro r L' ⟨rfl,rfl⟩
   refine⟨[],⟨by simp,by simp,by simp,by simp,by simp⟩,?_⟩
   simp only[qaf]
   simp -implicitDefEqProofs
   exact nx 3 φ (by omega) (by omega) (h3:=by rw[hφ];simp[bqI]) (h4:=by rw[hφ];simp[hM,hK,kAt,mkTo,bqL,bqR,bqI,obOf,qaa])
  ·have c:=cm b3 (by simp) (k+11 * b0.length+11 * b1.length+11 * b2.length) (by omega)
   try simp only[Int.natCast_add,Int.natCast_mul,Int.cast_ofNat_Int]at c
   simp -implicitDefEqProofs [hM,hK,kAt,mkTo,bqL,bqR]
   refine qad [(1000,.whole 1004)] (by kernel_rfl) c (by simp) (by simp) (by simp[bkOb];exact qac rfl (by simp)) (by simp) (by simp) ?_
   rintro r L' ⟨rfl,rfl⟩
   refine⟨[],⟨by simp,by simp,by simp,by simp,by simp⟩,?_⟩
   simp only[qaf]
   simp -implicitDefEqProofs
   exact nx 4 φ (by omega) (by omega) (h3:=by rw[hφ];simp[bqI]) (h4:=by rw[hφ];simp[hM,hK,kAt,mkTo,bqL,bqR,bqI,obOf,qaa])
  ·simp -implicitDefEqProofs [hM,hK,kAt,mkTo,bqL,bqR]
 ·simp -implicitDefEqProofs [bqL,bqR]
  simp only[List.length_cons,List.length_nil]at hn
  refine ev_lo (X:=Nat) [0,1,5] φ (fun i=>[(5,.int .i64 i),(1,.int .i64 (Kf i:Nat))]) Mf (fun i=>n-i) (fun i=>i≤n) 0 (by omega) ?_ (h0:=by rw[hφ];simp[bqI]) (he:=by rw[hφ];simp[hM,hK,kAt,mkTo,bqL,bqR,bqI,obOf])
  rintro i hi
  have l0:=hlen b0 (by simp)
  have l1:=hlen b1 (by simp)
  have l2:=hlen b2 (by simp)
  have l3:=hlen b3 (by simp)
  have l4:=hlen b4 (by simp)
  rcases nine (show i≤9 by omega)with rfl | rfl | rfl | rfl | rfl | rfl | rfl | rfl | rfl | rfl
  all_goals try (exfalso;omega)
  ·have c:=cm b0 (by simp) (k) (by omega)
   try simp only[Int.natCast_add,Int.natCast_mul,Int.cast_ofNat_Int]at c
   simp -implicitDefEqProofs [hM,hK,kAt,mkTo,bqL,bqR]
   refine qad [(1000,.whole 1001)] (by kernel_rfl) c (by simp) (by simp) (by simp[bkOb];exact qac rfl (by simp)) (by simp) (by simp) ?_
   rintro r L' ⟨rfl,rfl⟩
   refine⟨[],⟨by simp,by simp,by simp,by simp,by simp⟩,?_⟩
   simp only[qaf]
   simp -implicitDefEqProofs
   exact nx 1 φ (by omega) (by omega) (h3:=by rw[hφ];simp[bqI]) (h4:=by rw[hφ];simp[hM,hK,kAt,mkTo,bqL,bqR,bqI,obOf,qaa])
  ·have c:=cm b1 (by simp) (k+11 * b0.length) (by omega)
   try simp only[Int.natCast_add,Int.natCast_mul,Int.cast_ofNat_Int]at c
   simp -implicitDefEqProofs [hM,hK,kAt,mkTo,bqL,bqR]
   refine qad [(1000,.whole 1002)] (by kernel_rfl) c (by simp) (by simp) (by simp[bkOb];exact qac rfl (by simp)) (by simp) (by simp) ?_
   rintro r L' ⟨rfl,rfl⟩
   refine⟨[],⟨by simp,by simp,by simp,by simp,by simp⟩,?_⟩
   simp only[qaf]
   simp -implicitDefEqProofs
   exact nx 2 φ (by omega) (by omega) (h3:=by rw[hφ];simp[bqI]) (h4:=by rw[hφ];simp[hM,hK,kAt,mkTo,bqL,bqR,bqI,obOf,qaa])
  ·have c:=cm b2 (by simp) (k+11 * b0.length+11 * b1.length) (by omega)
   try simp only[Int.natCast_add,Int.natCast_mul,Int.cast_ofNat_Int]at c
   simp -implicitDefEqProofs [hM,hK,kAt,mkTo,bqL,bqR]
   refine qad [(1000,.whole 1003)] (by kernel_rfl) c (by simp) (by simp) (by simp[bkOb];exact qac rfl (by simp)) (by simp) (by simp) ?_
   rintro r L' ⟨rfl,rfl⟩
   refine⟨[],⟨by simp,by simp,by simp,by simp,by simp⟩,?_⟩
   simp only[qaf]
   simp -implicitDefEqProofs
   exact nx 3 φ (by omega) (by omega) (h3:=by rw[hφ];simp[bqI]) (h4:=by rw[hφ];simp[hM,hK,kAt,mkTo,bqL,bqR,bqI,obOf,qaa])
  ·have c:=cm b3 (by simp) (k+11 * b0.length+11 * b1.length+11 * b2.length) (by omega)
   try simp only[Int.natCast_add,Int.natCast_mul,Int.cast_ofNat_Int]at c
   simp -implicitDefEqProofs [hM,hK,kAt,mkTo,bqL,bqR]
   refine qad [(1000,.whole 1004)] (by kernel_rfl) c (by simp) (by simp) (by simp[bkOb];exact qac rfl (by simp)) (by simp) (by simp) ?_
   rintro r L' ⟨rfl,rfl⟩
   refine⟨[],⟨by simp,by simp,by simp,by simp,by simp⟩,?_⟩
   simp only[qaf]
   simp -implicitDefEqProofs
   exact nx 4 φ (by omega) (by omega) (h3:=by rw[hφ];simp[bqI]) (h4:=by rw[hφ];simp[hM,hK,kAt,mkTo,bqL,bqR,bqI,obOf,qaa])
  ·have c:=cm b4 (by simp) (k+11 * b0.length+11 * b1.length+11 * b2.length+11 * b3.length) (by omega)
   try simp only[Int.natCast_add,Int.natCast_mul,Int.cast_ofNat_Int]at c
   simp -implicitDefEqProofs [hM,hK,kAt,mkTo,bqL,bqR]
   refine qad [(1000,.whole 1005)] (by kernel_rfl) c (by simp) (by simp) (by simp[bkOb];exact qac rfl (by simp)) (by simp) (by simp) ?_
   rintro r L' ⟨rfl,rfl⟩
   refine⟨[],⟨by simp,by simp,by simp,by simp,by simp⟩,?_⟩
   simp only[qaf]
   simp -implicitDefEqProofs
   exact nx 5 φ (by omega) (by omega) (h3:=by rw[hφ];simp[bqI]) (h4:=by rw[hφ];simp[hM,hK,kAt,mkTo,bqL,bqR,bqI,obOf,qaa])
  ·simp -implicitDefEqProofs [hM,hK,kAt,mkTo,bqL,bqR]
 ·simp -implicitDefEqProofs [bqL,bqR]
  simp only[List.length_cons,List.length_nil]at hn
  refine ev_lo (X:=Nat) [0,1,5] φ (fun i=>[(5,.int .i64 i),(1,.int .i64 (Kf i:Nat))]) Mf (fun i=>n-i) (fun i=>i≤n) 0 (by omega) ?_ (h0:=by rw[hφ];simp[bqI]) (he:=by rw[hφ];simp[hM,hK,kAt,mkTo,bqL,bqR,bqI,obOf])
  rintro i hi
  have l0:=hlen b0 (by simp)
  have l1:=hlen b1 (by simp)
  have l2:=hlen b2 (by simp)
  have l3:=hlen b3 (by simp)
  have l4:=hlen b4 (by simp)
  have l5:=hlen b5 (by simp)
  rcases nine (show i≤9 by omega)with rfl | rfl | rfl | rfl | rfl | rfl | rfl | rfl | rfl | rfl
  all_goals try (exfalso;omega)
  ·have c:=cm b0 (by simp) (k) (by omega)
   try simp only[Int.natCast_add,Int.natCast_mul,Int.cast_ofNat_Int]at c
   simp -implicitDefEqProofs [hM,hK,kAt,mkTo,bqL,bqR]
   refine qad [(1000,.whole 1001)] (by kernel_rfl) c (by simp) (by simp) (by simp[bkOb];exact qac rfl (by simp)) (by simp) (by simp) ?_
   rintro r L' ⟨rfl,rfl⟩
   refine⟨[],⟨by simp,by simp,by simp,by simp,by simp⟩,?_⟩
   simp only[qaf]
   simp -implicitDefEqProofs
   exact nx 1 φ (by omega) (by omega) (h3:=by rw[hφ];simp[bqI]) (h4:=by rw[hφ];simp[hM,hK,kAt,mkTo,bqL,bqR,bqI,obOf,qaa])
  ·have c:=cm b1 (by simp) (k+11 * b0.length) (by omega)
   try simp only[Int.natCast_add,Int.natCast_mul,Int.cast_ofNat_Int]at c
   simp -implicitDefEqProofs [hM,hK,kAt,mkTo,bqL,bqR]
   refine qad [(1000,.whole 1002)] (by kernel_rfl) c (by simp) (by simp) (by simp[bkOb];exact qac rfl (by simp)) (by simp) (by simp) ?_
   rintro r L' ⟨rfl,rfl⟩
   refine⟨[],⟨by simp,by simp,by simp,by simp,by simp⟩,?_⟩
   simp only[qaf]
   simp -implicitDefEqProofs
   exact nx 2 φ (by omega) (by omega) (h3:=by rw[hφ];simp[bqI]) (h4:=by rw[hφ];simp[hM,hK,kAt,mkTo,bqL,bqR,bqI,obOf,qaa])
  ·have c:=cm b2 (by simp) (k+11 * b0.length+11 * b1.length) (by omega)
   try simp only[Int.natCast_add,Int.natCast_mul,Int.cast_ofNat_Int]at c
   simp -implicitDefEqProofs [hM,hK,kAt,mkTo,bqL,bqR]
   refine qad [(1000,.whole 1003)] (by kernel_rfl) c (by simp) (by simp) (by simp[bkOb];exact qac rfl (by simp)) (by simp) (by simp) ?_
   rintro r L' ⟨rfl,rfl⟩
   refine⟨[],⟨by simp,by simp,by simp,by simp,by simp⟩,?_⟩
   simp only[qaf]
   simp -implicitDefEqProofs
   exact nx 3 φ (by omega) (by omega) (h3:=by rw[hφ];simp[bqI]) (h4:=by rw[hφ];simp[hM,hK,kAt,mkTo,bqL,bqR,bqI,obOf,qaa])
  ·have c:=cm b3 (by simp) (k+11 * b0.length+11 * b1.length+11 * b2.length) (by omega)
   try simp only[Int.natCast_add,Int.natCast_mul,Int.cast_ofNat_Int]at c
   simp -implicitDefEqProofs [hM,hK,kAt,mkTo,bqL,bqR]
   refine qad [(1000,.whole 1004)] (by kernel_rfl) c (by simp) (by simp) (by simp[bkOb];exact qac rfl (by simp)) (by simp) (by simp) ?_
   rintro r L' ⟨rfl,rfl⟩
   refine⟨[],⟨by simp,by simp,by simp,by simp,by simp⟩,?_⟩
   simp only[qaf]
   simp -implicitDefEqProofs
   exact nx 4 φ (by omega) (by omega) (h3:=by rw[hφ];simp[bqI]) (h4:=by rw[hφ];simp[hM,hK,kAt,mkTo,bqL,bqR,bqI,obOf,qaa])
  ·have c:=cm b4 (by simp) (k+11 * b0.length+11 * b1.length+11 * b2.length+11 * b3.length) (by omega)
   try simp only[Int.natCast_add,Int.natCast_mul,Int.cast_ofNat_Int]at c
   simp -implicitDefEqProofs [hM,hK,kAt,mkTo,bqL,bqR]
   refine qad [(1000,.whole 1005)] (by kernel_rfl) c (by simp) (by simp) (by simp[bkOb];exact qac rfl (by simp)) (by simp) (by simp) ?_
   rintro r L' ⟨rfl,rfl⟩
   refine⟨[],⟨by simp,by simp,by simp,by simp,by simp⟩,?_⟩
   simp only[qaf]
   simp -implicitDefEqProofs
   exact nx 5 φ (by omega) (by omega) (h3:=by rw[hφ];simp[bqI]) (h4:=by rw[hφ];simp[hM,hK,kAt,mkTo,bqL,bqR,bqI,obOf,qaa])
  ·have c:=cm b5 (by simp) (k+11 * b0.length+11 * b1.length+11 * b2.length+11 * b3.length+11 * b4.length) (by omega)
   try simp only[Int.natCast_add,Int.natCast_mul,Int.cast_ofNat_Int]at c
   simp -implicitDefEqProofs [hM,hK,kAt,mkTo,bqL,bqR]
   refine qad [(1000,.whole 1006)] (by kernel_rfl) c (by simp) (by simp) (by simp[bkOb];exact qac rfl (by simp)) (by simp) (by simp) ?_
   rintro r L' ⟨rfl,rfl⟩
   refine⟨[],⟨by simp,by simp,by simp,by simp,by simp⟩,?_⟩
   simp only[qaf]
   simp -implicitDefEqProofs
   exact nx 6 φ (by omega) (by omega) (h3:=by rw[hφ];simp[bqI]) (h4:=by rw[hφ];simp[hM,hK,kAt,mkTo,bqL,bqR,bqI,obOf,qaa])
  ·simp -implicitDefEqProofs [hM,hK,kAt,mkTo,bqL,bqR]
 ·simp -implicitDefEqProofs [bqL,bqR]
  simp only[List.length_cons,List.length_nil]at hn
  refine ev_lo (X:=Nat) [0,1,5] φ (fun i=>[(5,.int .i64 i),(1,.int .i64 (Kf i:Nat))]) Mf (fun i=>n-i) (fun i=>i≤n) 0 (by omega) ?_ (h0:=by rw[hφ];simp[bqI]) (he:=by rw[hφ];simp[hM,hK,kAt,mkTo,bqL,bqR,bqI,obOf])
  rintro i hi
  have l0:=hlen b0 (by simp)
  have l1:=hlen b1 (by simp)
  have l2:=hlen b2 (by simp)
  have l3:=hlen b3 (by simp)
  have l4:=hlen b4 (by simp)
  have l5:=hlen b5 (by simp)
  have l6:=hlen b6 (by simp)
  rcases nine (show i≤9 by omega)with rfl | rfl | rfl | rfl | rfl | rfl | rfl | rfl | rfl | rfl
  all_goals try (exfalso;omega)
  ·have c:=cm b0 (by simp) (k) (by omega)
   try simp only[Int.natCast_add,Int.natCast_mul,Int.cast_ofNat_Int]at c
   simp -implicitDefEqProofs [hM,hK,kAt,mkTo,bqL,bqR]
   refine qad [(1000,.whole 1001)] (by kernel_rfl) c (by simp) (by simp) (by simp[bkOb];exact qac rfl (by simp)) (by simp) (by simp) ?_
   rintro r L' ⟨rfl,rfl⟩
   refine⟨[],⟨by simp,by simp,by simp,by simp,by simp⟩,?_⟩
   simp only[qaf]
   simp -implicitDefEqProofs
   exact nx 1 φ (by omega) (by omega) (h3:=by rw[hφ];simp[bqI]) (h4:=by rw[hφ];simp[hM,hK,kAt,mkTo,bqL,bqR,bqI,obOf,qaa])
  ·have c:=cm b1 (by simp) (k+11 * b0.length) (by omega)
   try simp only[Int.natCast_add,Int.natCast_mul,Int.cast_ofNat_Int]at c
   simp -implicitDefEqProofs [hM,hK,kAt,mkTo,bqL,bqR]
   refine qad [(1000,.whole 1002)] (by kernel_rfl) c (by simp) (by simp) (by simp[bkOb];exact qac rfl (by simp)) (by simp) (by simp) ?_
   rintro r L' ⟨rfl,rfl⟩
   refine⟨[],⟨by simp,by simp,by simp,by simp,by simp⟩,?_⟩
   simp only[qaf]
   simp -implicitDefEqProofs
   exact nx 2 φ (by omega) (by omega) (h3:=by rw[hφ];simp[bqI]) (h4:=by rw[hφ];simp[hM,hK,kAt,mkTo,bqL,bqR,bqI,obOf,qaa])
  ·have c:=cm b2 (by simp) (k+11 * b0.length+11 * b1.length) (by omega)
   try simp only[Int.natCast_add,Int.natCast_mul,Int.cast_ofNat_Int]at c
   simp -implicitDefEqProofs [hM,hK,kAt,mkTo,bqL,bqR]
   refine qad [(1000,.whole 1003)] (by kernel_rfl) c (by simp) (by simp) (by simp[bkOb];exact qac rfl (by simp)) (by simp) (by simp) ?_
   rintro r L' ⟨rfl,rfl⟩
   refine⟨[],⟨by simp,by simp,by simp,by simp,by simp⟩,?_⟩
   simp only[qaf]
   simp -implicitDefEqProofs
   exact nx 3 φ (by omega) (by omega) (h3:=by rw[hφ];simp[bqI]) (h4:=by rw[hφ];simp[hM,hK,kAt,mkTo,bqL,bqR,bqI,obOf,qaa])
  ·have c:=cm b3 (by simp) (k+11 * b0.length+11 * b1.length+11 * b2.length) (by omega)
   try simp only[Int.natCast_add,Int.natCast_mul,Int.cast_ofNat_Int]at c
   simp -implicitDefEqProofs [hM,hK,kAt,mkTo,bqL,bqR]
   refine qad [(1000,.whole 1004)] (by kernel_rfl) c (by simp) (by simp) (by simp[bkOb];exact qac rfl (by simp)) (by simp) (by simp) ?_
   rintro r L' ⟨rfl,rfl⟩
   refine⟨[],⟨by simp,by simp,by simp,by simp,by simp⟩,?_⟩
   simp only[qaf]
   simp -implicitDefEqProofs
   exact nx 4 φ (by omega) (by omega) (h3:=by rw[hφ];simp[bqI]) (h4:=by rw[hφ];simp[hM,hK,kAt,mkTo,bqL,bqR,bqI,obOf,qaa])
  ·have c:=cm b4 (by simp) (k+11 * b0.length+11 * b1.length+11 * b2.length+11 * b3.length) (by omega)
   try simp only[Int.natCast_add,Int.natCast_mul,Int.cast_ofNat_Int]at c
   simp -implicitDefEqProofs [hM,hK,kAt,mkTo,bqL,bqR]
   refine qad [(1000,.whole 1005)] (by kernel_rfl) c (by simp) (by simp) (by simp[bkOb];exact qac rfl (by simp)) (by simp) (by simp) ?_
   rintro r L' ⟨rfl,rfl⟩
   refine⟨[],⟨by simp,by simp,by simp,by simp,by simp⟩,?_⟩
   simp only[qaf]
   simp -implicitDefEqProofs
   exact nx 5 φ (by omega) (by omega) (h3:=by rw[hφ];simp[bqI]) (h4:=by rw[hφ];simp[hM,hK,kAt,mkTo,bqL,bqR,bqI,obOf,qaa])
  ·have c:=cm b5 (by simp) (k+11 * b0.length+11 * b1.length+11 * b2.length+11 * b3.length+11 * b4.length) (by omega)
   try simp only[Int.natCast_add,Int.natCast_mul,Int.cast_ofNat_Int]at c
   simp -implicitDefEqProofs [hM,hK,kAt,mkTo,bqL,bqR]
   refine qad [(1000,.whole 1006)] (by kernel_rfl) c (by simp) (by simp) (by simp[bkOb];exact qac rfl (by simp)) (by simp) (by simp) ?_
   rintro r L' ⟨rfl,rfl⟩
   refine⟨[],⟨by simp,by simp,by simp,by simp,by simp⟩,?_⟩
   simp only[qaf]
   simp -implicitDefEqProofs
   exact nx 6 φ (by omega) (by omega) (h3:=by rw[hφ];simp[bqI]) (h4:=by rw[hφ];simp[hM,hK,kAt,mkTo,bqL,bqR,bqI,obOf,qaa])
  ·have c:=cm b6 (by simp) (k+11 * b0.length+11 * b1.length+11 * b2.length+11 * b3.length+11 * b4.length+11 * b5.length) (by omega)
   try simp only[Int.natCast_add,Int.natCast_mul,Int.cast_ofNat_Int]at c
   simp -implicitDefEqProofs [hM,hK,kAt,mkTo,bqL,bqR]
   refine qad [(1000,.whole 1007)] (by kernel_rfl) c (by simp) (by simp) (by simp[bkOb];exact qac rfl (by simp)) (by simp) (by simp) ?_
   rintro r L' ⟨rfl,rfl⟩
   refine⟨[],⟨by simp,by simp,by simp,by simp,by simp⟩,?_⟩
   simp only[qaf]
   simp -implicitDefEqProofs
   exact nx 7 φ (by omega) (by omega) (h3:=by rw[hφ];simp[bqI]) (h4:=by rw[hφ];simp[hM,hK,kAt,mkTo,bqL,bqR,bqI,obOf,qaa])
  ·simp -implicitDefEqProofs [hM,hK,kAt,mkTo,bqL,bqR]
 ·simp -implicitDefEqProofs [bqL,bqR]
  simp only[List.length_cons,List.length_nil]at hn
  refine ev_lo (X:=Nat) [0,1,5] φ (fun i=>[(5,.int .i64 i),(1,.int .i64 (Kf i:Nat))]) Mf (fun i=>n-i) (fun i=>i≤n) 0 (by omega) ?_ (h0:=by rw[hφ];simp[bqI]) (he:=by rw[hφ];simp[hM,hK,kAt,mkTo,bqL,bqR,bqI,obOf])
  rintro i hi
  have l0:=hlen b0 (by simp)
  have l1:=hlen b1 (by simp)
  have l2:=hlen b2 (by simp)
  have l3:=hlen b3 (by simp)
  have l4:=hlen b4 (by simp)
  have l5:=hlen b5 (by simp)
  have l6:=hlen b6 (by simp)
  have l7:=hlen b7 (by simp)
  rcases nine (show i≤9 by omega)with rfl | rfl | rfl | rfl | rfl | rfl | rfl | rfl | rfl | rfl
  all_goals try (exfalso;omega)
  ·have c:=cm b0 (by simp) (k) (by omega)
   try simp only[Int.natCast_add,Int.natCast_mul,Int.cast_ofNat_Int]at c
   simp -implicitDefEqProofs [hM,hK,kAt,mkTo,bqL,bqR]
   refine qad [(1000,.whole 1001)] (by kernel_rfl) c (by simp) (by simp) (by simp[bkOb];exact qac rfl (by simp)) (by simp) (by simp) ?_
   rintro r L' ⟨rfl,rfl⟩
   refine⟨[],⟨by simp,by simp,by simp,by simp,by simp⟩,?_⟩
   simp only[qaf]
   simp -implicitDefEqProofs
   exact nx 1 φ (by omega) (by omega) (h3:=by rw[hφ];simp[bqI]) (h4:=by rw[hφ];simp[hM,hK,kAt,mkTo,bqL,bqR,bqI,obOf,qaa])
  ·have c:=cm b1 (by simp) (k+11 * b0.length) (by omega)
   try simp only[Int.natCast_add,Int.natCast_mul,Int.cast_ofNat_Int]at c
   simp -implicitDefEqProofs [hM,hK,kAt,mkTo,bqL,bqR]
   refine qad [(1000,.whole 1002)] (by kernel_rfl) c (by simp) (by simp) (by simp[bkOb];exact qac rfl (by simp)) (by simp) (by simp) ?_
   rintro r L' ⟨rfl,rfl⟩
   refine⟨[],⟨by simp,by simp,by simp,by simp,by simp⟩,?_⟩
   simp only[qaf]
   simp -implicitDefEqProofs
   exact nx 2 φ (by omega) (by omega) (h3:=by rw[hφ];simp[bqI]) (h4:=by rw[hφ];simp[hM,hK,kAt,mkTo,bqL,bqR,bqI,obOf,qaa])
  ·have c:=cm b2 (by simp) (k+11 * b0.length+11 * b1.length) (by omega)
   try simp only[Int.natCast_add,Int.natCast_mul,Int.cast_ofNat_Int]at c
   simp -implicitDefEqProofs [hM,hK,kAt,mkTo,bqL,bqR]
   refine qad [(1000,.whole 1003)] (by kernel_rfl) c (by simp) (by simp) (by simp[bkOb];exact qac rfl (by simp)) (by simp) (by simp) ?_
   rintro r L' ⟨rfl,rfl⟩
   refine⟨[],⟨by simp,by simp,by simp,by simp,by simp⟩,?_⟩
   simp only[qaf]
   simp -implicitDefEqProofs
   exact nx 3 φ (by omega) (by omega) (h3:=by rw[hφ];simp[bqI]) (h4:=by rw[hφ];simp[hM,hK,kAt,mkTo,bqL,bqR,bqI,obOf,qaa])
  ·have c:=cm b3 (by simp) (k+11 * b0.length+11 * b1.length+11 * b2.length) (by omega)
   try simp only[Int.natCast_add,Int.natCast_mul,Int.cast_ofNat_Int]at c
   simp -implicitDefEqProofs [hM,hK,kAt,mkTo,bqL,bqR]
   refine qad [(1000,.whole 1004)] (by kernel_rfl) c (by simp) (by simp) (by simp[bkOb];exact qac rfl (by simp)) (by simp) (by simp) ?_
   rintro r L' ⟨rfl,rfl⟩
   refine⟨[],⟨by simp,by simp,by simp,by simp,by simp⟩,?_⟩
   simp only[qaf]
   simp -implicitDefEqProofs
   exact nx 4 φ (by omega) (by omega) (h3:=by rw[hφ];simp[bqI]) (h4:=by rw[hφ];simp[hM,hK,kAt,mkTo,bqL,bqR,bqI,obOf,qaa])
  ·have c:=cm b4 (by simp) (k+11 * b0.length+11 * b1.length+11 * b2.length+11 * b3.length) (by omega)
   try simp only[Int.natCast_add,Int.natCast_mul,Int.cast_ofNat_Int]at c
   simp -implicitDefEqProofs [hM,hK,kAt,mkTo,bqL,bqR]
   refine qad [(1000,.whole 1005)] (by kernel_rfl) c (by simp) (by simp) (by simp[bkOb];exact qac rfl (by simp)) (by simp) (by simp) ?_
   rintro r L' ⟨rfl,rfl⟩
   refine⟨[],⟨by simp,by simp,by simp,by simp,by simp⟩,?_⟩
   simp only[qaf]
   simp -implicitDefEqProofs
   exact nx 5 φ (by omega) (by omega) (h3:=by rw[hφ];simp[bqI]) (h4:=by rw[hφ];simp[hM,hK,kAt,mkTo,bqL,bqR,bqI,obOf,qaa])
  ·have c:=cm b5 (by simp) (k+11 * b0.length+11 * b1.length+11 * b2.length+11 * b3.length+11 * b4.length) (by omega)
   try simp only[Int.natCast_add,Int.natCast_mul,Int.cast_ofNat_Int]at c
   simp -implicitDefEqProofs [hM,hK,kAt,mkTo,bqL,bqR]
   refine qad [(1000,.whole 1006)] (by kernel_rfl) c (by simp) (by simp) (by simp[bkOb];exact qac rfl (by simp)) (by simp) (by simp) ?_
   rintro r L' ⟨rfl,rfl⟩
   refine⟨[],⟨by simp,by simp,by simp,by simp,by simp⟩,?_⟩
   simp only[qaf]
   simp -implicitDefEqProofs
   exact nx 6 φ (by omega) (by omega) (h3:=by rw[hφ];simp[bqI]) (h4:=by rw[hφ];simp[hM,hK,kAt,mkTo,bqL,bqR,bqI,obOf,qaa])
  ·have c:=cm b6 (by simp) (k+11 * b0.length+11 * b1.length+11 * b2.length+11 * b3.length+11 * b4.length+11 * b5.length) (by omega)
   try simp only[Int.natCast_add,Int.natCast_mul,Int.cast_ofNat_Int]at c
   simp -implicitDefEqProofs [hM,hK,kAt,mkTo,bqL,bqR]
   refine qad [(1000,.whole 1007)] (by kernel_rfl) c (by simp) (by simp) (by simp[bkOb];exact qac rfl (by simp)) (by simp) (by simp) ?_
   rintro r L' ⟨rfl,rfl⟩
   refine⟨[],⟨by simp,by simp,by simp,by simp,by simp⟩,?_⟩
   simp only[qaf]
   simp -implicitDefEqProofs
   exact nx 7 φ (by omega) (by omega) (h3:=by rw[hφ];simp[bqI]) (h4:=by rw[hφ];simp[hM,hK,kAt,mkTo,bqL,bqR,bqI,obOf,qaa])
  ·have c:=cm b7 (by simp) (k+11 * b0.length+11 * b1.length+11 * b2.length+11 * b3.length+11 * b4.length+11 * b5.length+11 * b6.length) (by omega)
   try simp only[Int.natCast_add,Int.natCast_mul,Int.cast_ofNat_Int]at c
   simp -implicitDefEqProofs [hM,hK,kAt,mkTo,bqL,bqR]
   refine qad [(1000,.whole 1008)] (by kernel_rfl) c (by simp) (by simp) (by simp[bkOb];exact qac rfl (by simp)) (by simp) (by simp) ?_
   rintro r L' ⟨rfl,rfl⟩
   refine⟨[],⟨by simp,by simp,by simp,by simp,by simp⟩,?_⟩
   simp only[qaf]
   simp -implicitDefEqProofs
   exact nx 8 φ (by omega) (by omega) (h3:=by rw[hφ];simp[bqI]) (h4:=by rw[hφ];simp[hM,hK,kAt,mkTo,bqL,bqR,bqI,obOf,qaa])
  ·simp -implicitDefEqProofs [hM,hK,kAt,mkTo,bqL,bqR]
 ·simp -implicitDefEqProofs [bqL,bqR]
  simp only[List.length_cons,List.length_nil]at hn
  refine ev_lo (X:=Nat) [0,1,5] φ (fun i=>[(5,.int .i64 i),(1,.int .i64 (Kf i:Nat))]) Mf (fun i=>n-i) (fun i=>i≤n) 0 (by omega) ?_ (h0:=by rw[hφ];simp[bqI]) (he:=by rw[hφ];simp[hM,hK,kAt,mkTo,bqL,bqR,bqI,obOf])
  rintro i hi
  have l0:=hlen b0 (by simp)
  have l1:=hlen b1 (by simp)
  have l2:=hlen b2 (by simp)
  have l3:=hlen b3 (by simp)
  have l4:=hlen b4 (by simp)
  have l5:=hlen b5 (by simp)
  have l6:=hlen b6 (by simp)
  have l7:=hlen b7 (by simp)
  have l8:=hlen b8 (by simp)
  rcases nine (show i≤9 by omega)with rfl | rfl | rfl | rfl | rfl | rfl | rfl | rfl | rfl | rfl
  all_goals try (exfalso;omega)
  ·have c:=cm b0 (by simp) (k) (by omega)
   try simp only[Int.natCast_add,Int.natCast_mul,Int.cast_ofNat_Int]at c
   simp -implicitDefEqProofs [hM,hK,kAt,mkTo,bqL,bqR]
   refine qad [(1000,.whole 1001)] (by kernel_rfl) c (by simp) (by simp) (by simp[bkOb];exact qac rfl (by simp)) (by simp) (by simp) ?_
   rintro r L' ⟨rfl,rfl⟩
   refine⟨[],⟨by simp,by simp,by simp,by simp,by simp⟩,?_⟩
   simp only[qaf]
   simp -implicitDefEqProofs
   exact nx 1 φ (by omega) (by omega) (h3:=by rw[hφ];simp[bqI]) (h4:=by rw[hφ];simp[hM,hK,kAt,mkTo,bqL,bqR,bqI,obOf,qaa])
  ·have c:=cm b1 (by simp) (k+11 * b0.length) (by omega)
   try simp only[Int.natCast_add,Int.natCast_mul,Int.cast_ofNat_Int]at c
   simp -implicitDefEqProofs [hM,hK,kAt,mkTo,bqL,bqR]
   refine qad [(1000,.whole 1002)] (by kernel_rfl) c (by simp) (by simp) (by simp[bkOb];exact qac rfl (by simp)) (by simp) (by simp) ?_
   rintro r L' ⟨rfl,rfl⟩
   refine⟨[],⟨by simp,by simp,by simp,by simp,by simp⟩,?_⟩
   simp only[qaf]
   simp -implicitDefEqProofs
   exact nx 2 φ (by omega) (by omega) (h3:=by rw[hφ];simp[bqI]) (h4:=by rw[hφ];simp[hM,hK,kAt,mkTo,bqL,bqR,bqI,obOf,qaa])
  ·have c:=cm b2 (by simp) (k+11 * b0.length+11 * b1.length) (by omega)
   try simp only[Int.natCast_add,Int.natCast_mul,Int.cast_ofNat_Int]at c
   simp -implicitDefEqProofs [hM,hK,kAt,mkTo,bqL,bqR]
   refine qad [(1000,.whole 1003)] (by kernel_rfl) c (by simp) (by simp) (by simp[bkOb];exact qac rfl (by simp)) (by simp) (by simp) ?_
   rintro r L' ⟨rfl,rfl⟩
   refine⟨[],⟨by simp,by simp,by simp,by simp,by simp⟩,?_⟩
   simp only[qaf]
   simp -implicitDefEqProofs
   exact nx 3 φ (by omega) (by omega) (h3:=by rw[hφ];simp[bqI]) (h4:=by rw[hφ];simp[hM,hK,kAt,mkTo,bqL,bqR,bqI,obOf,qaa])
  ·have c:=cm b3 (by simp) (k+11 * b0.length+11 * b1.length+11 * b2.length) (by omega)
   try simp only[Int.natCast_add,Int.natCast_mul,Int.cast_ofNat_Int]at c
   simp -implicitDefEqProofs [hM,hK,kAt,mkTo,bqL,bqR]
   refine qad [(1000,.whole 1004)] (by kernel_rfl) c (by simp) (by simp) (by simp[bkOb];exact qac rfl (by simp)) (by simp) (by simp) ?_
   rintro r L' ⟨rfl,rfl⟩
   refine⟨[],⟨by simp,by simp,by simp,by simp,by simp⟩,?_⟩
   simp only[qaf]
   simp -implicitDefEqProofs
   exact nx 4 φ (by omega) (by omega) (h3:=by rw[hφ];simp[bqI]) (h4:=by rw[hφ];simp[hM,hK,kAt,mkTo,bqL,bqR,bqI,obOf,qaa])
  ·have c:=cm b4 (by simp) (k+11 * b0.length+11 * b1.length+11 * b2.length+11 * b3.length) (by omega)
   try simp only[Int.natCast_add,Int.natCast_mul,Int.cast_ofNat_Int]at c
   simp -implicitDefEqProofs [hM,hK,kAt,mkTo,bqL,bqR]
   refine qad [(1000,.whole 1005)] (by kernel_rfl) c (by simp) (by simp) (by simp[bkOb];exact qac rfl (by simp)) (by simp) (by simp) ?_
   rintro r L' ⟨rfl,rfl⟩
   refine⟨[],⟨by simp,by simp,by simp,by simp,by simp⟩,?_⟩
   simp only[qaf]
   simp -implicitDefEqProofs
   exact nx 5 φ (by omega) (by omega) (h3:=by rw[hφ];simp[bqI]) (h4:=by rw[hφ];simp[hM,hK,kAt,mkTo,bqL,bqR,bqI,obOf,qaa])
  ·have c:=cm b5 (by simp) (k+11 * b0.length+11 * b1.length+11 * b2.length+11 * b3.length+11 * b4.length) (by omega)
   try simp only[Int.natCast_add,Int.natCast_mul,Int.cast_ofNat_Int]at c
   simp -implicitDefEqProofs [hM,hK,kAt,mkTo,bqL,bqR]
   refine qad [(1000,.whole 1006)] (by kernel_rfl) c (by simp) (by simp) (by simp[bkOb];exact qac rfl (by simp)) (by simp) (by simp) ?_
   rintro r L' ⟨rfl,rfl⟩
   refine⟨[],⟨by simp,by simp,by simp,by simp,by simp⟩,?_⟩
   simp only[qaf]
   simp -implicitDefEqProofs
   exact nx 6 φ (by omega) (by omega) (h3:=by rw[hφ];simp[bqI]) (h4:=by rw[hφ];simp[hM,hK,kAt,mkTo,bqL,bqR,bqI,obOf,qaa])
  ·have c:=cm b6 (by simp) (k+11 * b0.length+11 * b1.length+11 * b2.length+11 * b3.length+11 * b4.length+11 * b5.length) (by omega)
   try simp only[Int.natCast_add,Int.natCast_mul,Int.cast_ofNat_Int]at c
   simp -implicitDefEqProofs [hM,hK,kAt,mkTo,bqL,bqR]
   refine qad [(1000,.whole 1007)] (by kernel_rfl) c (by simp) (by simp) (by simp[bkOb];exact qac rfl (by simp)) (by simp) (by simp) ?_
   rintro r L' ⟨rfl,rfl⟩
   refine⟨[],⟨by simp,by simp,by simp,by simp,by simp⟩,?_⟩
   simp only[qaf]
   simp -implicitDefEqProofs
   exact nx 7 φ (by omega) (by omega) (h3:=by rw[hφ];simp[bqI]) (h4:=by rw[hφ];simp[hM,hK,kAt,mkTo,bqL,bqR,bqI,obOf,qaa])
  ·have c:=cm b7 (by simp) (k+11 * b0.length+11 * b1.length+11 * b2.length+11 * b3.length+11 * b4.length+11 * b5.length+11 * b6.length) (by omega)
   try simp only[Int.natCast_add,Int.natCast_mul,Int.cast_ofNat_Int]at c
   simp -implicitDefEqProofs [hM,hK,kAt,mkTo,bqL,bqR]
   refine qad [(1000,.whole 1008)] (by kernel_rfl) c (by simp) (by simp) (by simp[bkOb];exact qac rfl (by simp)) (by simp) (by simp) ?_
   rintro r L' ⟨rfl,rfl⟩
   refine⟨[],⟨by simp,by simp,by simp,by simp,by simp⟩,?_⟩
   simp only[qaf]
   simp -implicitDefEqProofs
   exact nx 8 φ (by omega) (by omega) (h3:=by rw[hφ];simp[bqI]) (h4:=by rw[hφ];simp[hM,hK,kAt,mkTo,bqL,bqR,bqI,obOf,qaa])
  ·have c:=cm b8 (by simp) (k+11 * b0.length+11 * b1.length+11 * b2.length+11 * b3.length+11 * b4.length+11 * b5.length+11 * b6.length+11 * b7.length) (by omega)
   try simp only[Int.natCast_add,Int.natCast_mul,Int.cast_ofNat_Int]at c
   simp -implicitDefEqProofs [hM,hK,kAt,mkTo,bqL,bqR]
   refine qad [(1000,.whole 1009)] (by kernel_rfl) c (by simp) (by simp) (by simp[bkOb];exact qac rfl (by simp)) (by simp) (by simp) ?_
   rintro r L' ⟨rfl,rfl⟩
   refine⟨[],⟨by simp,by simp,by simp,by simp,by simp⟩,?_⟩
   simp only[qaf]
   simp -implicitDefEqProofs
   exact nx 9 φ (by omega) (by omega) (h3:=by rw[hφ];simp[bqI]) (h4:=by rw[hφ];simp[hM,hK,kAt,mkTo,bqL,bqR,bqI,obOf,qaa])
  ·simp -implicitDefEqProofs [hM,hK,kAt,mkTo,bqL,bqR]
theorem mkTo_len:∀ (i k:Nat) (l:List (List BS)),(mkTo i k l).length=l.length
 | 0,_,_=>rfl
 | _+1,_,[]=>rfl
 | i+1,k,b::r=>by simp[mkTo,mkTo_len i _ r]
set_option maxHeartbeats 4000000 in
theorem heldBksO (l:List (List BS)) (k:Nat) (h9:l.length≤9) (hk:k≤100000000) (hL:∀ b∈l,b.length≤100) :
  ACall prog 12 [.sl 1000 0 l.length,.int .i64 k] ((1000,⟨1,bqR 1001 l⟩)::bqL 1001 (mkTo l.length k l)) (fun r L'=>r=.int .i64 (kAt l.length k l:Nat)∧L'=(1000,⟨1,bqR 1001 l⟩)::bqL 1001 (mkTo l.length k l)):=by
 obtain⟨Kf,hK⟩:∃ Kf:Nat→Nat,∀ i,Kf i=kAt i k l:=⟨_,fun _=>rfl⟩
 obtain⟨Mf,hM⟩:∃ Mf:List (Nat×Ob),Mf=(1000,⟨1,bqR 1001 l⟩)::bqL 1001 (mkTo l.length k l):=⟨_,rfl⟩
 obtain⟨φ,hφ⟩:∃ φ,φ=(1000,1000)::bqI 1001 l:=⟨_,rfl⟩
 obtain⟨n,hn⟩:∃ n,n=l.length:=⟨_,rfl⟩
 have cm:=fun(z m:Nat) (hz:z≤100) (hm:m≤200000000)=>heldSetsK z m (by omega) (by omega)
 refine acx func12 [] ntmps12 rfl rfl rfl ?_ (hL:=bqL_nod _ (by rw[mkTo_len];exact h9) _)
 rcases upto9 l h9 with rfl | ⟨b0,rfl⟩ | ⟨b0,b1,rfl⟩ | ⟨b0,b1,b2,rfl⟩ | ⟨b0,b1,b2,b3,rfl⟩ | ⟨b0,b1,b2,b3,b4,rfl⟩ | ⟨b0,b1,b2,b3,b4,b5,rfl⟩ | ⟨b0,b1,b2,b3,b4,b5,b6,rfl⟩ | ⟨b0,b1,b2,b3,b4,b5,b6,b7,rfl⟩ | ⟨b0,b1,b2,b3,b4,b5,b6,b7,b8,rfl⟩
 ·simp -implicitDefEqProofs [bqL,bqR,mkTo]
  simp only[List.length_cons,List.length_nil]at hn
  refine ev_lo (X:=Nat) [0,1,5] φ (fun i=>[(5,.int .i64 i),(1,.int .i64 (Kf i:Nat))]) (fun _=>Mf) (fun i=>n-i) (fun i=>i≤n) 0 (by omega) ?_ (h0:=by rw[hφ];simp[bqI]) (he:=by rw[hφ];simp[hM,hK,kAt,mkTo,bqL,bqR,bqI,obOf])
  rintro i hi
  rcases nine (show i≤9 by omega)with rfl | rfl | rfl | rfl | rfl | rfl | rfl | rfl | rfl | rfl
  all_goals try (exfalso;omega)
  ·simp -implicitDefEqProofs [hM,hK,kAt,mkTo,bqL,bqR]
 ·simp -implicitDefEqProofs [bqL,bqR,mkTo]
  simp only[List.length_cons,List.length_nil]at hn
  refine ev_lo (X:=Nat) [0,1,5] φ (fun i=>[(5,.int .i64 i),(1,.int .i64 (Kf i:Nat))]) (fun _=>Mf) (fun i=>n-i) (fun i=>i≤n) 0 (by omega) ?_ (h0:=by rw[hφ];simp[bqI]) (he:=by rw[hφ];simp[hM,hK,kAt,mkTo,bqL,bqR,bqI,obOf])
  rintro i hi
  have l0:=hL b0 (by simp)
  rcases nine (show i≤9 by omega)with rfl | rfl | rfl | rfl | rfl | rfl | rfl | rfl | rfl | rfl
  all_goals try (exfalso;omega)
  ·have c:=cm b0.length (k) l0 (by omega)
   try simp only[Int.natCast_add,Int.natCast_mul,Int.cast_ofNat_Int]at c
   simp -implicitDefEqProofs [hM,hK,kAt,mkTo,bqL,bqR]
   refine c.view (by simp[vwOk,mtA,bkOb,qaa];try exact List.take_of_length_le (by simp[qaa])) ?_
   simp -implicitDefEqProofs [show ¬ ((k:Int)+11 * (b0.length:Int):Int)<0 by omega]
   exact nx 1 φ (by omega) (by omega) (h3:=by rw[hφ];simp[bqI]) (h4:=by rw[hφ];simp[hM,hK,kAt,mkTo,bqL,bqR,bqI,obOf,qaa])
  ·simp -implicitDefEqProofs [hM,hK,kAt,mkTo,bqL,bqR]
 ·simp -implicitDefEqProofs [bqL,bqR,mkTo]
  simp only[List.length_cons,List.length_nil]at hn
  refine ev_lo (X:=Nat) [0,1,5] φ (fun i=>[(5,.int .i64 i),(1,.int .i64 (Kf i:Nat))]) (fun _=>Mf) (fun i=>n-i) (fun i=>i≤n) 0 (by omega) ?_ (h0:=by rw[hφ];simp[bqI]) (he:=by rw[hφ];simp[hM,hK,kAt,mkTo,bqL,bqR,bqI,obOf])
  rintro i hi
  have l0:=hL b0 (by simp)
  have l1:=hL b1 (by simp)
  rcases nine (show i≤9 by omega)with rfl | rfl | rfl | rfl | rfl | rfl | rfl | rfl | rfl | rfl
  all_goals try (exfalso;omega)
  ·have c:=cm b0.length (k) l0 (by omega)
   try simp only[Int.natCast_add,Int.natCast_mul,Int.cast_ofNat_Int]at c
   simp -implicitDefEqProofs [hM,hK,kAt,mkTo,bqL,bqR]
   refine c.view (by simp[vwOk,mtA,bkOb,qaa];try exact List.take_of_length_le (by simp[qaa])) ?_
   simp -implicitDefEqProofs [show ¬ ((k:Int)+11 * (b0.length:Int):Int)<0 by omega]
   exact nx 1 φ (by omega) (by omega) (h3:=by rw[hφ];simp[bqI]) (h4:=by rw[hφ];simp[hM,hK,kAt,mkTo,bqL,bqR,bqI,obOf,qaa])
  ·have c:=cm b1.length (k+11 * b0.length) l1 (by omega)
   try simp only[Int.natCast_add,Int.natCast_mul,Int.cast_ofNat_Int]at c
   simp -implicitDefEqProofs [hM,hK,kAt,mkTo,bqL,bqR]
   refine c.view (by simp[vwOk,mtA,bkOb,qaa];try exact List.take_of_length_le (by simp[qaa])) ?_
   simp -implicitDefEqProofs [show ¬ ((k:Int)+11 * (b0.length:Int)+11 * (b1.length:Int):Int)<0 by omega]
   exact nx 2 φ (by omega) (by omega) (h3:=by rw[hφ];simp[bqI]) (h4:=by rw[hφ];simp[hM,hK,kAt,mkTo,bqL,bqR,bqI,obOf,qaa])
  ·simp -implicitDefEqProofs [hM,hK,kAt,mkTo,bqL,bqR]
 ·simp -implicitDefEqProofs [bqL,bqR,mkTo]
  simp only[List.length_cons,List.length_nil]at hn
  refine ev_lo (X:=Nat) [0,1,5] φ (fun i=>[(5,.int .i64 i),(1,.int .i64 (Kf i:Nat))]) (fun _=>Mf) (fun i=>n-i) (fun i=>i≤n) 0 (by omega) ?_ (h0:=by rw[hφ];simp[bqI]) (he:=by rw[hφ];simp[hM,hK,kAt,mkTo,bqL,bqR,bqI,obOf])
  rintro i hi
  have l0:=hL b0 (by simp)
  have l1:=hL b1 (by simp)
  have l2:=hL b2 (by simp)
  rcases nine (show i≤9 by omega)with rfl | rfl | rfl | rfl | rfl | rfl | rfl | rfl | rfl | rfl
  all_goals try (exfalso;omega)
  ·have c:=cm b0.length (k) l0 (by omega)
   try simp only[Int.natCast_add,Int.natCast_mul,Int.cast_ofNat_Int]at c
   simp -implicitDefEqProofs [hM,hK,kAt,mkTo,bqL,bqR]
   refine c.view (by simp[vwOk,mtA,bkOb,qaa];try exact List.take_of_length_le (by simp[qaa])) ?_
   simp -implicitDefEqProofs [show ¬ ((k:Int)+11 * (b0.length:Int):Int)<0 by omega]
   exact nx 1 φ (by omega) (by omega) (h3:=by rw[hφ];simp[bqI]) (h4:=by rw[hφ];simp[hM,hK,kAt,mkTo,bqL,bqR,bqI,obOf,qaa])
  ·have c:=cm b1.length (k+11 * b0.length) l1 (by omega)
   try simp only[Int.natCast_add,Int.natCast_mul,Int.cast_ofNat_Int]at c
   simp -implicitDefEqProofs [hM,hK,kAt,mkTo,bqL,bqR]
   refine c.view (by simp[vwOk,mtA,bkOb,qaa];try exact List.take_of_length_le (by simp[qaa])) ?_
   simp -implicitDefEqProofs [show ¬ ((k:Int)+11 * (b0.length:Int)+11 * (b1.length:Int):Int)<0 by omega]
   exact nx 2 φ (by omega) (by omega) (h3:=by rw[hφ];simp[bqI]) (h4:=by rw[hφ];simp[hM,hK,kAt,mkTo,bqL,bqR,bqI,obOf,qaa])
  ·have c:=cm b2.length (k+11 * b0.length+11 * b1.length) l2 (by omega)
   try simp only[Int.natCast_add,Int.natCast_mul,Int.cast_ofNat_Int]at c
   simp -implicitDefEqProofs [hM,hK,kAt,mkTo,bqL,bqR]
   refine c.view (by simp[vwOk,mtA,bkOb,qaa];try exact List.take_of_length_le (by simp[qaa])) ?_
   simp -implicitDefEqProofs [show ¬ ((k:Int)+11 * (b0.length:Int)+11 * (b1.length:Int)+11 * (b2.length:Int):Int)<0 by omega]
   exact nx 3 φ (by omega) (by omega) (h3:=by rw[hφ];simp[bqI]) (h4:=by rw[hφ];simp[hM,hK,kAt,mkTo,bqL,bqR,bqI,obOf,qaa])
  ·simp -implicitDefEqProofs [hM,hK,kAt,mkTo,bqL,bqR]
 ·simp -implicitDefEqProofs [bqL,bqR,mkTo]
  simp only[List.length_cons,List.length_nil]at hn
  refine ev_lo (X:=Nat) [0,1,5] φ (fun i=>[(5,.int .i64 i),(1,.int .i64 (Kf i:Nat))]) (fun _=>Mf) (fun i=>n-i) (fun i=>i≤n) 0 (by omega) ?_ (h0:=by rw[hφ];simp[bqI]) (he:=by rw[hφ];simp[hM,hK,kAt,mkTo,bqL,bqR,bqI,obOf])
  rintro i hi
  have l0:=hL b0 (by simp)
  have l1:=hL b1 (by simp)
  have l2:=hL b2 (by simp)
  have l3:=hL b3 (by simp)
  rcases nine (show i≤9 by omega)with rfl | rfl | rfl | rfl | rfl | rfl | rfl | rfl | rfl | rfl
  all_goals try (exfalso;omega)
  ·have c:=cm b0.length (k) l0 (by omega)
   try simp only[Int.natCast_add,Int.natCast_mul,Int.cast_ofNat_Int]at c
   simp -implicitDefEqProofs [hM,hK,kAt,mkTo,bqL,bqR]
   refine c.view (by simp[vwOk,mtA,bkOb,qaa];try exact List.take_of_length_le (by simp[qaa])) ?_
   simp -implicitDefEqProofs [show ¬ ((k:Int)+11 * (b0.length:Int):Int)<0 by omega]
   exact nx 1 φ (by omega) (by omega) (h3:=by rw[hφ];simp[bqI]) (h4:=by rw[hφ];simp[hM,hK,kAt,mkTo,bqL,bqR,bqI,obOf,qaa])
  ·have c:=cm b1.length (k+11 * b0.length) l1 (by omega)
   try simp only[Int.natCast_add,Int.natCast_mul,Int.cast_ofNat_Int]at c
   simp -implicitDefEqProofs [hM,hK,kAt,mkTo,bqL,bqR]
   refine c.view (by simp[vwOk,mtA,bkOb,qaa];try exact List.take_of_length_le (by simp[qaa])) ?_
   simp -implicitDefEqProofs [show ¬ ((k:Int)+11 * (b0.length:Int)+11 * (b1.length:Int):Int)<0 by omega]
   exact nx 2 φ (by omega) (by omega) (h3:=by rw[hφ];simp[bqI]) (h4:=by rw[hφ];simp[hM,hK,kAt,mkTo,bqL,bqR,bqI,obOf,qaa])
  ·have c:=cm b2.length (k+11 * b0.length+11 * b1.length) l2 (by omega)
   try simp only[Int.natCast_add,Int.natCast_mul,Int.cast_ofNat_Int]at c
   simp -implicitDefEqProofs [hM,hK,kAt,mkTo,bqL,bqR]
   refine c.view (by simp[vwOk,mtA,bkOb,qaa];try exact List.take_of_length_le (by simp[qaa])) ?_
   simp -implicitDefEqProofs [show ¬ ((k:Int)+11 * (b0.length:Int)+11 * (b1.length:Int)+11 * (b2.length:Int):Int)<0 by omega]
   exact nx 3 φ (by omega) (by omega) (h3:=by rw[hφ];simp[bqI]) (h4:=by rw[hφ];simp[hM,hK,kAt,mkTo,bqL,bqR,bqI,obOf,qaa])
  ·have c:=cm b3.length (k+11 * b0.length+11 * b1.length+11 * b2.length) l3 (by omega)
   try simp only[Int.natCast_add,Int.natCast_mul,Int.cast_ofNat_Int]at c
   simp -implicitDefEqProofs [hM,hK,kAt,mkTo,bqL,bqR]
   refine c.view (by simp[vwOk,mtA,bkOb,qaa];try exact List.take_of_length_le (by simp[qaa])) ?_
   simp -implicitDefEqProofs [show ¬ ((k:Int)+11 * (b0.length:Int)+11 * (b1.length:Int)+11 * (b2.length:Int)+11 * (b3.length:Int):Int)<0 by omega]
   exact nx 4 φ (by omega) (by omega) (h3:=by rw[hφ];simp[bqI]) (h4:=by rw[hφ];simp[hM,hK,kAt,mkTo,bqL,bqR,bqI,obOf,qaa])
  ·simp -implicitDefEqProofs [hM,hK,kAt,mkTo,bqL,bqR]
 ·simp -implicitDefEqProofs [bqL,bqR,mkTo]
  simp only[List.length_cons,List.length_nil]at hn
  refine ev_lo (X:=Nat) [0,1,5] φ (fun i=>[(5,.int .i64 i),(1,.int .i64 (Kf i:Nat))]) (fun _=>Mf) (fun i=>n-i) (fun i=>i≤n) 0 (by omega) ?_ (h0:=by rw[hφ];simp[bqI]) (he:=by rw[hφ];simp[hM,hK,kAt,mkTo,bqL,bqR,bqI,obOf])
  rintro i hi
  have l0:=hL b0 (by simp)
  have l1:=hL b1 (by simp)
  have l2:=hL b2 (by simp)
  have l3:=hL b3 (by simp)
  have l4:=hL b4 (by simp)
  rcases nine (show i≤9 by omega)with rfl | rfl | rfl | rfl | rfl | rfl | rfl | rfl | rfl | rfl
  all_goals try (exfalso;omega)
  ·have c:=cm b0.length (k) l0 (by omega)
   try simp only[Int.natCast_add,Int.natCast_mul,Int.cast_ofNat_Int]at c
   simp -implicitDefEqProofs [hM,hK,kAt,mkTo,bqL,bqR]
   refine c.view (by simp[vwOk,mtA,bkOb,qaa];try exact List.take_of_length_le (by simp[qaa])) ?_
   simp -implicitDefEqProofs [show ¬ ((k:Int)+11 * (b0.length:Int):Int)<0 by omega]
   exact nx 1 φ (by omega) (by omega) (h3:=by rw[hφ];simp[bqI]) (h4:=by rw[hφ];simp[hM,hK,kAt,mkTo,bqL,bqR,bqI,obOf,qaa])
  ·have c:=cm b1.length (k+11 * b0.length) l1 (by omega)
   try simp only[Int.natCast_add,Int.natCast_mul,Int.cast_ofNat_Int]at c
   simp -implicitDefEqProofs [hM,hK,kAt,mkTo,bqL,bqR]
   refine c.view (by simp[vwOk,mtA,bkOb,qaa];try exact List.take_of_length_le (by simp[qaa])) ?_
   simp -implicitDefEqProofs [show ¬ ((k:Int)+11 * (b0.length:Int)+11 * (b1.length:Int):Int)<0 by omega]
   exact nx 2 φ (by omega) (by omega) (h3:=by rw[hφ];simp[bqI]) (h4:=by rw[hφ];simp[hM,hK,kAt,mkTo,bqL,bqR,bqI,obOf,qaa])
  ·have c:=cm b2.length (k+11 * b0.length+11 * b1.length) l2 (by omega)
   try simp only[Int.natCast_add,Int.natCast_mul,Int.cast_ofNat_Int]at c
   simp -implicitDefEqProofs [hM,hK,kAt,mkTo,bqL,bqR]
   refine c.view (by simp[vwOk,mtA,bkOb,qaa];try exact List.take_of_length_le (by simp[qaa])) ?_
   simp -implicitDefEqProofs [show ¬ ((k:Int)+11 * (b0.length:Int)+11 * (b1.length:Int)+11 * (b2.length:Int):Int)<0 by omega]
   exact nx 3 φ (by omega) (by omega) (h3:=by rw[hφ];simp[bqI]) (h4:=by rw[hφ];simp[hM,hK,kAt,mkTo,bqL,bqR,bqI,obOf,qaa])
  ·have c:=cm b3.length (k+11 * b0.length+11 * b1.length+11 * b2.length) l3 (by omega)
   try simp only[Int.natCast_add,Int.natCast_mul,Int.cast_ofNat_Int]at c
   simp -implicitDefEqProofs [hM,hK,kAt,mkTo,bqL,bqR]
   refine c.view (by simp[vwOk,mtA,bkOb,qaa];try exact List.take_of_length_le (by simp[qaa])) ?_
   simp -implicitDefEqProofs [show ¬ ((k:Int)+11 * (b0.length:Int)+11 * (b1.length:Int)+11 * (b2.length:Int)+11 * (b3.length:Int):Int)<0 by omega]
   exact nx 4 φ (by omega) (by omega) (h3:=by rw[hφ];simp[bqI]) (h4:=by rw[hφ];simp[hM,hK,kAt,mkTo,bqL,bqR,bqI,obOf,qaa])
  ·have c:=cm b4.length (k+11 * b0.length+11 * b1.length+11 * b2.length+11 * b3.length) l4 (by omega)
   try simp only[Int.natCast_add,Int.natCast_mul,Int.cast_ofNat_Int]at c
   simp -implicitDefEqProofs [hM,hK,kAt,mkTo,bqL,bqR]
   refine c.view (by simp[vwOk,mtA,bkOb,qaa];try exact List.take_of_length_le (by simp[qaa])) ?_
   simp -implicitDefEqProofs [show ¬ ((k:Int)+11 * (b0.length:Int)+11 * (b1.length:Int)+11 * (b2.length:Int)+11 * (b3.length:Int)+11 * (b4.length:Int):Int)<0 by omega]
   exact nx 5 φ (by omega) (by omega) (h3:=by rw[hφ];simp[bqI]) (h4:=by rw[hφ];simp[hM,hK,kAt,mkTo,bqL,bqR,bqI,obOf,qaa])
  ·simp -implicitDefEqProofs [hM,hK,kAt,mkTo,bqL,bqR]
 ·simp -implicitDefEqProofs [bqL,bqR,mkTo]
  simp only[List.length_cons,List.length_nil]at hn
  refine ev_lo (X:=Nat) [0,1,5] φ (fun i=>[(5,.int .i64 i),(1,.int .i64 (Kf i:Nat))]) (fun _=>Mf) (fun i=>n-i) (fun i=>i≤n) 0 (by omega) ?_ (h0:=by rw[hφ];simp[bqI]) (he:=by rw[hφ];simp[hM,hK,kAt,mkTo,bqL,bqR,bqI,obOf])
  rintro i hi
  have l0:=hL b0 (by simp)
  have l1:=hL b1 (by simp)
  have l2:=hL b2 (by simp)
  have l3:=hL b3 (by simp)
  have l4:=hL b4 (by simp)
  have l5:=hL b5 (by simp)
  rcases nine (show i≤9 by omega)with rfl | rfl | rfl | rfl | rfl | rfl | rfl | rfl | rfl | rfl
  all_goals try (exfalso;omega)
  ·have c:=cm b0.length (k) l0 (by omega)
   try simp only[Int.natCast_add,Int.natCast_mul,Int.cast_ofNat_Int]at c
   simp -implicitDefEqProofs [hM,hK,kAt,mkTo,bqL,bqR]
   refine c.view (by simp[vwOk,mtA,bkOb,qaa];try exact List.take_of_length_le (by simp[qaa])) ?_
   simp -implicitDefEqProofs [show ¬ ((k:Int)+11 * (b0.length:Int):Int)<0 by omega]
   exact nx 1 φ (by omega) (by omega) (h3:=by rw[hφ];simp[bqI]) (h4:=by rw[hφ];simp[hM,hK,kAt,mkTo,bqL,bqR,bqI,obOf,qaa])
  ·have c:=cm b1.length (k+11 * b0.length) l1 (by omega)
   try simp only[Int.natCast_add,Int.natCast_mul,Int.cast_ofNat_Int]at c
   simp -implicitDefEqProofs [hM,hK,kAt,mkTo,bqL,bqR]
   refine c.view (by simp[vwOk,mtA,bkOb,qaa];try exact List.take_of_length_le (by simp[qaa])) ?_
   simp -implicitDefEqProofs [show ¬ ((k:Int)+11 * (b0.length:Int)+11 * (b1.length:Int):Int)<0 by omega]
   exact nx 2 φ (by omega) (by omega) (h3:=by rw[hφ];simp[bqI]) (h4:=by rw[hφ];simp[hM,hK,kAt,mkTo,bqL,bqR,bqI,obOf,qaa])
  ·have c:=cm b2.length (k+11 * b0.length+11 * b1.length) l2 (by omega)
   try simp only[Int.natCast_add,Int.natCast_mul,Int.cast_ofNat_Int]at c
   simp -implicitDefEqProofs [hM,hK,kAt,mkTo,bqL,bqR]
   refine c.view (by simp[vwOk,mtA,bkOb,qaa];try exact List.take_of_length_le (by simp[qaa])) ?_
   simp -implicitDefEqProofs [show ¬ ((k:Int)+11 * (b0.length:Int)+11 * (b1.length:Int)+11 * (b2.length:Int):Int)<0 by omega]
   exact nx 3 φ (by omega) (by omega) (h3:=by rw[hφ];simp[bqI]) (h4:=by rw[hφ];simp[hM,hK,kAt,mkTo,bqL,bqR,bqI,obOf,qaa])
  ·have c:=cm b3.length (k+11 * b0.length+11 * b1.length+11 * b2.length) l3 (by omega)
   try simp only[Int.natCast_add,Int.natCast_mul,Int.cast_ofNat_Int]at c
   simp -implicitDefEqProofs [hM,hK,kAt,mkTo,bqL,bqR]
   refine c.view (by simp[vwOk,mtA,bkOb,qaa];try exact List.take_of_length_le (by simp[qaa])) ?_
   simp -implicitDefEqProofs [show ¬ ((k:Int)+11 * (b0.length:Int)+11 * (b1.length:Int)+11 * (b2.length:Int)+11 * (b3.length:Int):Int)<0 by omega]
   exact nx 4 φ (by omega) (by omega) (h3:=by rw[hφ];simp[bqI]) (h4:=by rw[hφ];simp[hM,hK,kAt,mkTo,bqL,bqR,bqI,obOf,qaa])
  ·have c:=cm b4.length (k+11 * b0.length+11 * b1.length+11 * b2.length+11 * b3.length) l4 (by omega)
   try simp only[Int.natCast_add,Int.natCast_mul,Int.cast_ofNat_Int]at c
   simp -implicitDefEqProofs [hM,hK,kAt,mkTo,bqL,bqR]
   refine c.view (by simp[vwOk,mtA,bkOb,qaa];try exact List.take_of_length_le (by simp[qaa])) ?_
   simp -implicitDefEqProofs [show ¬ ((k:Int)+11 * (b0.length:Int)+11 * (b1.length:Int)+11 * (b2.length:Int)+11 * (b3.length:Int)+11 * (b4.length:Int):Int)<0 by omega]
   exact nx 5 φ (by omega) (by omega) (h3:=by rw[hφ];simp[bqI]) (h4:=by rw[hφ];simp[hM,hK,kAt,mkTo,bqL,bqR,bqI,obOf,qaa])
  ·have c:=cm b5.length (k+11 * b0.length+11 * b1.length+11 * b2.length+11 * b3.length+11 * b4.length) l5 (by omega)
   try simp only[Int.natCast_add,Int.natCast_mul,Int.cast_ofNat_Int]at c
   simp -implicitDefEqProofs [hM,hK,kAt,mkTo,bqL,bqR]
   refine c.view (by simp[vwOk,mtA,bkOb,qaa];try exact List.take_of_length_le (by simp[qaa])) ?_
   simp -implicitDefEqProofs [show ¬ ((k:Int)+11 * (b0.length:Int)+11 * (b1.length:Int)+11 * (b2.length:Int)+11 * (b3.length:Int)+11 * (b4.length:Int)+11 * (b5.length:Int):Int)<0 by omega]
   exact nx 6 φ (by omega) (by omega) (h3:=by rw[hφ];simp[bqI]) (h4:=by rw[hφ];simp[hM,hK,kAt,mkTo,bqL,bqR,bqI,obOf,qaa])
  ·simp -implicitDefEqProofs [hM,hK,kAt,mkTo,bqL,bqR]
 ·simp -implicitDefEqProofs [bqL,bqR,mkTo]
  simp only[List.length_cons,List.length_nil]at hn
  refine ev_lo (X:=Nat) [0,1,5] φ (fun i=>[(5,.int .i64 i),(1,.int .i64 (Kf i:Nat))]) (fun _=>Mf) (fun i=>n-i) (fun i=>i≤n) 0 (by omega) ?_ (h0:=by rw[hφ];simp[bqI]) (he:=by rw[hφ];simp[hM,hK,kAt,mkTo,bqL,bqR,bqI,obOf])
  rintro i hi
  have l0:=hL b0 (by simp)
  have l1:=hL b1 (by simp)
  have l2:=hL b2 (by simp)
  have l3:=hL b3 (by simp)
  have l4:=hL b4 (by simp)
  have l5:=hL b5 (by simp)
  have l6:=hL b6 (by simp)
  rcases nine (show i≤9 by omega)with rfl | rfl | rfl | rfl | rfl | rfl | rfl | rfl | rfl | rfl
  all_goals try (exfalso;omega)
  ·have c:=cm b0.length (k) l0 (by omega)
   try simp only[Int.natCast_add,Int.natCast_mul,Int.cast_ofNat_Int]at c
   simp -implicitDefEqProofs [hM,hK,kAt,mkTo,bqL,bqR]
   refine c.view (by simp[vwOk,mtA,bkOb,qaa];try exact List.take_of_length_le (by simp[qaa])) ?_
   simp -implicitDefEqProofs [show ¬ ((k:Int)+11 * (b0.length:Int):Int)<0 by omega]
   exact nx 1 φ (by omega) (by omega) (h3:=by rw[hφ];simp[bqI]) (h4:=by rw[hφ];simp[hM,hK,kAt,mkTo,bqL,bqR,bqI,obOf,qaa])
  ·have c:=cm b1.length (k+11 * b0.length) l1 (by omega)
   try simp only[Int.natCast_add,Int.natCast_mul,Int.cast_ofNat_Int]at c
   simp -implicitDefEqProofs [hM,hK,kAt,mkTo,bqL,bqR]
   refine c.view (by simp[vwOk,mtA,bkOb,qaa];try exact List.take_of_length_le (by simp[qaa])) ?_
   simp -implicitDefEqProofs [show ¬ ((k:Int)+11 * (b0.length:Int)+11 * (b1.length:Int):Int)<0 by omega]
   exact nx 2 φ (by omega) (by omega) (h3:=by rw[hφ];simp[bqI]) (h4:=by rw[hφ];simp[hM,hK,kAt,mkTo,bqL,bqR,bqI,obOf,qaa])
  ·have c:=cm b2.length (k+11 * b0.length+11 * b1.length) l2 (by omega)
   try simp only[Int.natCast_add,Int.natCast_mul,Int.cast_ofNat_Int]at c
   simp -implicitDefEqProofs [hM,hK,kAt,mkTo,bqL,bqR]
   refine c.view (by simp[vwOk,mtA,bkOb,qaa];try exact List.take_of_length_le (by simp[qaa])) ?_
   simp -implicitDefEqProofs [show ¬ ((k:Int)+11 * (b0.length:Int)+11 * (b1.length:Int)+11 * (b2.length:Int):Int)<0 by omega]
   exact nx 3 φ (by omega) (by omega) (h3:=by rw[hφ];simp[bqI]) (h4:=by rw[hφ];simp[hM,hK,kAt,mkTo,bqL,bqR,bqI,obOf,qaa])
  ·have c:=cm b3.length (k+11 * b0.length+11 * b1.length+11 * b2.length) l3 (by omega)
   try simp only[Int.natCast_add,Int.natCast_mul,Int.cast_ofNat_Int]at c
   simp -implicitDefEqProofs [hM,hK,kAt,mkTo,bqL,bqR]
   refine c.view (by simp[vwOk,mtA,bkOb,qaa];try exact List.take_of_length_le (by simp[qaa])) ?_
   simp -implicitDefEqProofs [show ¬ ((k:Int)+11 * (b0.length:Int)+11 * (b1.length:Int)+11 * (b2.length:Int)+11 * (b3.length:Int):Int)<0 by omega]
   exact nx 4 φ (by omega) (by omega) (h3:=by rw[hφ];simp[bqI]) (h4:=by rw[hφ];simp[hM,hK,kAt,mkTo,bqL,bqR,bqI,obOf,qaa])
  ·have c:=cm b4.length (k+11 * b0.length+11 * b1.length+11 * b2.length+11 * b3.length) l4 (by omega)
   try simp only[Int.natCast_add,Int.natCast_mul,Int.cast_ofNat_Int]at c
   simp -implicitDefEqProofs [hM,hK,kAt,mkTo,bqL,bqR]
   refine c.view (by simp[vwOk,mtA,bkOb,qaa];try exact List.take_of_length_le (by simp[qaa])) ?_
   simp -implicitDefEqProofs [show ¬ ((k:Int)+11 * (b0.length:Int)+11 * (b1.length:Int)+11 * (b2.length:Int)+11 * (b3.length:Int)+11 * (b4.length:Int):Int)<0 by omega]
   exact nx 5 φ (by omega) (by omega) (h3:=by rw[hφ];simp[bqI]) (h4:=by rw[hφ];simp[hM,hK,kAt,mkTo,bqL,bqR,bqI,obOf,qaa])
  ·have c:=cm b5.length (k+11 * b0.length+11 * b1.length+11 * b2.length+11 * b3.length+11 * b4.length) l5 (by omega)
   try simp only[Int.natCast_add,Int.natCast_mul,Int.cast_ofNat_Int]at c
   simp -implicitDefEqProofs [hM,hK,kAt,mkTo,bqL,bqR]
   refine c.view (by simp[vwOk,mtA,bkOb,qaa];try exact List.take_of_length_le (by simp[qaa])) ?_
   simp -implicitDefEqProofs [show ¬ ((k:Int)+11 * (b0.length:Int)+11 * (b1.length:Int)+11 * (b2.length:Int)+11 * (b3.length:Int)+11 * (b4.length:Int)+11 * (b5.length:Int):Int)<0 by omega]
   exact nx 6 φ (by omega) (by omega) (h3:=by rw[hφ];simp[bqI]) (h4:=by rw[hφ];simp[hM,hK,kAt,mkTo,bqL,bqR,bqI,obOf,qaa])
  ·have c:=cm b6.length (k+11 * b0.length+11 * b1.length+11 * b2.length+11 * b3.length+11 * b4.length+11 * b5.length) l6 (by omega)
   try simp only[Int.natCast_add,Int.natCast_mul,Int.cast_ofNat_Int]at c
   simp -implicitDefEqProofs [hM,hK,kAt,mkTo,bqL,bqR]
   refine c.view (by simp[vwOk,mtA,bkOb,qaa];try exact List.take_of_length_le (by simp[qaa])) ?_
   simp -implicitDefEqProofs [show ¬ ((k:Int)+11 * (b0.length:Int)+11 * (b1.length:Int)+11 * (b2.length:Int)+11 * (b3.length:Int)+11 * (b4.length:Int)+11 * (b5.length:Int)+11 * (b6.length:Int):Int)<0 by omega]
   exact nx 7 φ (by omega) (by omega) (h3:=by rw[hφ];simp[bqI]) (h4:=by rw[hφ];simp[hM,hK,kAt,mkTo,bqL,bqR,bqI,obOf,qaa])
  ·simp -implicitDefEqProofs [hM,hK,kAt,mkTo,bqL,bqR]
 ·simp -implicitDefEqProofs [bqL,bqR,mkTo]
  simp only[List.length_cons,List.length_nil]at hn
  refine ev_lo (X:=Nat) [0,1,5] φ (fun i=>[(5,.int .i64 i),(1,.int .i64 (Kf i:Nat))]) (fun _=>Mf) (fun i=>n-i) (fun i=>i≤n) 0 (by omega) ?_ (h0:=by rw[hφ];simp[bqI]) (he:=by rw[hφ];simp[hM,hK,kAt,mkTo,bqL,bqR,bqI,obOf])
  rintro i hi
  have l0:=hL b0 (by simp)
  have l1:=hL b1 (by simp)
  have l2:=hL b2 (by simp)
  have l3:=hL b3 (by simp)
  have l4:=hL b4 (by simp)
  have l5:=hL b5 (by simp)
  have l6:=hL b6 (by simp)
  have l7:=hL b7 (by simp)
  rcases nine (show i≤9 by omega)with rfl | rfl | rfl | rfl | rfl | rfl | rfl | rfl | rfl | rfl
  all_goals try (exfalso;omega)
  ·have c:=cm b0.length (k) l0 (by omega)
   try simp only[Int.natCast_add,Int.natCast_mul,Int.cast_ofNat_Int]at c
   simp -implicitDefEqProofs [hM,hK,kAt,mkTo,bqL,bqR]
   refine c.view (by simp[vwOk,mtA,bkOb,qaa];try exact List.take_of_length_le (by simp[qaa])) ?_
   simp -implicitDefEqProofs [show ¬ ((k:Int)+11 * (b0.length:Int):Int)<0 by omega]
   exact nx 1 φ (by omega) (by omega) (h3:=by rw[hφ];simp[bqI]) (h4:=by rw[hφ];simp[hM,hK,kAt,mkTo,bqL,bqR,bqI,obOf,qaa])
  ·have c:=cm b1.length (k+11 * b0.length) l1 (by omega)
   try simp only[Int.natCast_add,Int.natCast_mul,Int.cast_ofNat_Int]at c
   simp -implicitDefEqProofs [hM,hK,kAt,mkTo,bqL,bqR]
   refine c.view (by simp[vwOk,mtA,bkOb,qaa];try exact List.take_of_length_le (by simp[qaa])) ?_
   simp -implicitDefEqProofs [show ¬ ((k:Int)+11 * (b0.length:Int)+11 * (b1.length:Int):Int)<0 by omega]
   exact nx 2 φ (by omega) (by omega) (h3:=by rw[hφ];simp[bqI]) (h4:=by rw[hφ];simp[hM,hK,kAt,mkTo,bqL,bqR,bqI,obOf,qaa])
  ·have c:=cm b2.length (k+11 * b0.length+11 * b1.length) l2 (by omega)
   try simp only[Int.natCast_add,Int.natCast_mul,Int.cast_ofNat_Int]at c
   simp -implicitDefEqProofs [hM,hK,kAt,mkTo,bqL,bqR]
   refine c.view (by simp[vwOk,mtA,bkOb,qaa];try exact List.take_of_length_le (by simp[qaa])) ?_
   simp -implicitDefEqProofs [show ¬ ((k:Int)+11 * (b0.length:Int)+11 * (b1.length:Int)+11 * (b2.length:Int):Int)<0 by omega]
   exact nx 3 φ (by omega) (by omega) (h3:=by rw[hφ];simp[bqI]) (h4:=by rw[hφ];simp[hM,hK,kAt,mkTo,bqL,bqR,bqI,obOf,qaa])
  ·have c:=cm b3.length (k+11 * b0.length+11 * b1.length+11 * b2.length) l3 (by omega)
   try simp only[Int.natCast_add,Int.natCast_mul,Int.cast_ofNat_Int]at c
   simp -implicitDefEqProofs [hM,hK,kAt,mkTo,bqL,bqR]
   refine c.view (by simp[vwOk,mtA,bkOb,qaa];try exact List.take_of_length_le (by simp[qaa])) ?_
   simp -implicitDefEqProofs [show ¬ ((k:Int)+11 * (b0.length:Int)+11 * (b1.length:Int)+11 * (b2.length:Int)+11 * (b3.length:Int):Int)<0 by omega]
   exact nx 4 φ (by omega) (by omega) (h3:=by rw[hφ];simp[bqI]) (h4:=by rw[hφ];simp[hM,hK,kAt,mkTo,bqL,bqR,bqI,obOf,qaa])
  ·have c:=cm b4.length (k+11 * b0.length+11 * b1.length+11 * b2.length+11 * b3.length) l4 (by omega)
   try simp only[Int.natCast_add,Int.natCast_mul,Int.cast_ofNat_Int]at c
   simp -implicitDefEqProofs [hM,hK,kAt,mkTo,bqL,bqR]
   refine c.view (by simp[vwOk,mtA,bkOb,qaa];try exact List.take_of_length_le (by simp[qaa])) ?_
   simp -implicitDefEqProofs [show ¬ ((k:Int)+11 * (b0.length:Int)+11 * (b1.length:Int)+11 * (b2.length:Int)+11 * (b3.length:Int)+11 * (b4.length:Int):Int)<0 by omega]
   exact nx 5 φ (by omega) (by omega) (h3:=by rw[hφ];simp[bqI]) (h4:=by rw[hφ];simp[hM,hK,kAt,mkTo,bqL,bqR,bqI,obOf,qaa])
  ·have c:=cm b5.length (k+11 * b0.length+11 * b1.length+11 * b2.length+11 * b3.length+11 * b4.length) l5 (by omega)
   try simp only[Int.natCast_add,Int.natCast_mul,Int.cast_ofNat_Int]at c
   simp -implicitDefEqProofs [hM,hK,kAt,mkTo,bqL,bqR]
   refine c.view (by simp[vwOk,mtA,bkOb,qaa];try exact List.take_of_length_le (by simp[qaa])) ?_
   simp -implicitDefEqProofs [show ¬ ((k:Int)+11 * (b0.length:Int)+11 * (b1.length:Int)+11 * (b2.length:Int)+11 * (b3.length:Int)+11 * (b4.length:Int)+11 * (b5.length:Int):Int)<0 by omega]
   exact nx 6 φ (by omega) (by omega) (h3:=by rw[hφ];simp[bqI]) (h4:=by rw[hφ];simp[hM,hK,kAt,mkTo,bqL,bqR,bqI,obOf,qaa])
  ·have c:=cm b6.length (k+11 * b0.length+11 * b1.length+11 * b2.length+11 * b3.length+11 * b4.length+11 * b5.length) l6 (by omega)
   try simp only[Int.natCast_add,Int.natCast_mul,Int.cast_ofNat_Int]at c
   simp -implicitDefEqProofs [hM,hK,kAt,mkTo,bqL,bqR]
   refine c.view (by simp[vwOk,mtA,bkOb,qaa];try exact List.take_of_length_le (by simp[qaa])) ?_
   simp -implicitDefEqProofs [show ¬ ((k:Int)+11 * (b0.length:Int)+11 * (b1.length:Int)+11 * (b2.length:Int)+11 * (b3.length:Int)+11 * (b4.length:Int)+11 * (b5.length:Int)+11 * (b6.length:Int):Int)<0 by omega]
   exact nx 7 φ (by omega) (by omega) (h3:=by rw[hφ];simp[bqI]) (h4:=by rw[hφ];simp[hM,hK,kAt,mkTo,bqL,bqR,bqI,obOf,qaa])
  ·have c:=cm b7.length (k+11 * b0.length+11 * b1.length+11 * b2.length+11 * b3.length+11 * b4.length+11 * b5.length+11 * b6.length) l7 (by omega)
   try simp only[Int.natCast_add,Int.natCast_mul,Int.cast_ofNat_Int]at c
   simp -implicitDefEqProofs [hM,hK,kAt,mkTo,bqL,bqR]
   refine c.view (by simp[vwOk,mtA,bkOb,qaa];try exact List.take_of_length_le (by simp[qaa])) ?_
   simp -implicitDefEqProofs [show ¬ ((k:Int)+11 * (b0.length:Int)+11 * (b1.length:Int)+11 * (b2.length:Int)+11 * (b3.length:Int)+11 * (b4.length:Int)+11 * (b5.length:Int)+11 * (b6.length:Int)+11 * (b7.length:Int):Int)<0 by omega]
   exact nx 8 φ (by omega) (by omega) (h3:=by rw[hφ];simp[bqI]) (h4:=by rw[hφ];simp[hM,hK,kAt,mkTo,bqL,bqR,bqI,obOf,qaa])
  ·simp -implicitDefEqProofs [hM,hK,kAt,mkTo,bqL,bqR]
 ·simp -implicitDefEqProofs [bqL,bqR,mkTo]
  simp only[List.length_cons,List.length_nil]at hn
  refine ev_lo (X:=Nat) [0,1,5] φ (fun i=>[(5,.int .i64 i),(1,.int .i64 (Kf i:Nat))]) (fun _=>Mf) (fun i=>n-i) (fun i=>i≤n) 0 (by omega) ?_ (h0:=by rw[hφ];simp[bqI]) (he:=by rw[hφ];simp[hM,hK,kAt,mkTo,bqL,bqR,bqI,obOf])
  rintro i hi
  have l0:=hL b0 (by simp)
  have l1:=hL b1 (by simp)
  have l2:=hL b2 (by simp)
  have l3:=hL b3 (by simp)
  have l4:=hL b4 (by simp)
  have l5:=hL b5 (by simp)
  have l6:=hL b6 (by simp)
  have l7:=hL b7 (by simp)
  have l8:=hL b8 (by simp)
  rcases nine (show i≤9 by omega)with rfl | rfl | rfl | rfl | rfl | rfl | rfl | rfl | rfl | rfl
  all_goals try (exfalso;omega)
  ·have c:=cm b0.length (k) l0 (by omega)
   try simp only[Int.natCast_add,Int.natCast_mul,Int.cast_ofNat_Int]at c
   simp -implicitDefEqProofs [hM,hK,kAt,mkTo,bqL,bqR]
   refine c.view (by simp[vwOk,mtA,bkOb,qaa];try exact List.take_of_length_le (by simp[qaa])) ?_
   simp -implicitDefEqProofs [show ¬ ((k:Int)+11 * (b0.length:Int):Int)<0 by omega]
   exact nx 1 φ (by omega) (by omega) (h3:=by rw[hφ];simp[bqI]) (h4:=by rw[hφ];simp[hM,hK,kAt,mkTo,bqL,bqR,bqI,obOf,qaa])
  ·have c:=cm b1.length (k+11 * b0.length) l1 (by omega)
   try simp only[Int.natCast_add,Int.natCast_mul,Int.cast_ofNat_Int]at c
   simp -implicitDefEqProofs [hM,hK,kAt,mkTo,bqL,bqR]
   refine c.view (by simp[vwOk,mtA,bkOb,qaa];try exact List.take_of_length_le (by simp[qaa])) ?_
   simp -implicitDefEqProofs [show ¬ ((k:Int)+11 * (b0.length:Int)+11 * (b1.length:Int):Int)<0 by omega]
   exact nx 2 φ (by omega) (by omega) (h3:=by rw[hφ];simp[bqI]) (h4:=by rw[hφ];simp[hM,hK,kAt,mkTo,bqL,bqR,bqI,obOf,qaa])
  ·have c:=cm b2.length (k+11 * b0.length+11 * b1.length) l2 (by omega)
   try simp only[Int.natCast_add,Int.natCast_mul,Int.cast_ofNat_Int]at c
   simp -implicitDefEqProofs [hM,hK,kAt,mkTo,bqL,bqR]
   refine c.view (by simp[vwOk,mtA,bkOb,qaa];try exact List.take_of_length_le (by simp[qaa])) ?_
   simp -implicitDefEqProofs [show ¬ ((k:Int)+11 * (b0.length:Int)+11 * (b1.length:Int)+11 * (b2.length:Int):Int)<0 by omega]
   exact nx 3 φ (by omega) (by omega) (h3:=by rw[hφ];simp[bqI]) (h4:=by rw[hφ];simp[hM,hK,kAt,mkTo,bqL,bqR,bqI,obOf,qaa])
  ·have c:=cm b3.length (k+11 * b0.length+11 * b1.length+11 * b2.length) l3 (by omega)
   try simp only[Int.natCast_add,Int.natCast_mul,Int.cast_ofNat_Int]at c
   simp -implicitDefEqProofs [hM,hK,kAt,mkTo,bqL,bqR]
   refine c.view (by simp[vwOk,mtA,bkOb,qaa];try exact List.take_of_length_le (by simp[qaa])) ?_
   simp -implicitDefEqProofs [show ¬ ((k:Int)+11 * (b0.length:Int)+11 * (b1.length:Int)+11 * (b2.length:Int)+11 * (b3.length:Int):Int)<0 by omega]
   exact nx 4 φ (by omega) (by omega) (h3:=by rw[hφ];simp[bqI]) (h4:=by rw[hφ];simp[hM,hK,kAt,mkTo,bqL,bqR,bqI,obOf,qaa])
  ·have c:=cm b4.length (k+11 * b0.length+11 * b1.length+11 * b2.length+11 * b3.length) l4 (by omega)
   try simp only[Int.natCast_add,Int.natCast_mul,Int.cast_ofNat_Int]at c
   simp -implicitDefEqProofs [hM,hK,kAt,mkTo,bqL,bqR]
   refine c.view (by simp[vwOk,mtA,bkOb,qaa];try exact List.take_of_length_le (by simp[qaa])) ?_
   simp -implicitDefEqProofs [show ¬ ((k:Int)+11 * (b0.length:Int)+11 * (b1.length:Int)+11 * (b2.length:Int)+11 * (b3.length:Int)+11 * (b4.length:Int):Int)<0 by omega]
   exact nx 5 φ (by omega) (by omega) (h3:=by rw[hφ];simp[bqI]) (h4:=by rw[hφ];simp[hM,hK,kAt,mkTo,bqL,bqR,bqI,obOf,qaa])
  ·have c:=cm b5.length (k+11 * b0.length+11 * b1.length+11 * b2.length+11 * b3.length+11 * b4.length) l5 (by omega)
   try simp only[Int.natCast_add,Int.natCast_mul,Int.cast_ofNat_Int]at c
   simp -implicitDefEqProofs [hM,hK,kAt,mkTo,bqL,bqR]
   refine c.view (by simp[vwOk,mtA,bkOb,qaa];try exact List.take_of_length_le (by simp[qaa])) ?_
   simp -implicitDefEqProofs [show ¬ ((k:Int)+11 * (b0.length:Int)+11 * (b1.length:Int)+11 * (b2.length:Int)+11 * (b3.length:Int)+11 * (b4.length:Int)+11 * (b5.length:Int):Int)<0 by omega]
   exact nx 6 φ (by omega) (by omega) (h3:=by rw[hφ];simp[bqI]) (h4:=by rw[hφ];simp[hM,hK,kAt,mkTo,bqL,bqR,bqI,obOf,qaa])
  ·have c:=cm b6.length (k+11 * b0.length+11 * b1.length+11 * b2.length+11 * b3.length+11 * b4.length+11 * b5.length) l6 (by omega)
   try simp only[Int.natCast_add,Int.natCast_mul,Int.cast_ofNat_Int]at c
   simp -implicitDefEqProofs [hM,hK,kAt,mkTo,bqL,bqR]
   refine c.view (by simp[vwOk,mtA,bkOb,qaa];try exact List.take_of_length_le (by simp[qaa])) ?_
   simp -implicitDefEqProofs [show ¬ ((k:Int)+11 * (b0.length:Int)+11 * (b1.length:Int)+11 * (b2.length:Int)+11 * (b3.length:Int)+11 * (b4.length:Int)+11 * (b5.length:Int)+11 * (b6.length:Int):Int)<0 by omega]
   exact nx 7 φ (by omega) (by omega) (h3:=by rw[hφ];simp[bqI]) (h4:=by rw[hφ];simp[hM,hK,kAt,mkTo,bqL,bqR,bqI,obOf,qaa])
  ·have c:=cm b7.length (k+11 * b0.length+11 * b1.length+11 * b2.length+11 * b3.length+11 * b4.length+11 * b5.length+11 * b6.length) l7 (by omega)
   try simp only[Int.natCast_add,Int.natCast_mul,Int.cast_ofNat_Int]at c
   simp -implicitDefEqProofs [hM,hK,kAt,mkTo,bqL,bqR]
   refine c.view (by simp[vwOk,mtA,bkOb,qaa];try exact List.take_of_length_le (by simp[qaa])) ?_
   simp -implicitDefEqProofs [show ¬ ((k:Int)+11 * (b0.length:Int)+11 * (b1.length:Int)+11 * (b2.length:Int)+11 * (b3.length:Int)+11 * (b4.length:Int)+11 * (b5.length:Int)+11 * (b6.length:Int)+11 * (b7.length:Int):Int)<0 by omega]
   exact nx 8 φ (by omega) (by omega) (h3:=by rw[hφ];simp[bqI]) (h4:=by rw[hφ];simp[hM,hK,kAt,mkTo,bqL,bqR,bqI,obOf,qaa])
  ·have c:=cm b8.length (k+11 * b0.length+11 * b1.length+11 * b2.length+11 * b3.length+11 * b4.length+11 * b5.length+11 * b6.length+11 * b7.length) l8 (by omega)
   try simp only[Int.natCast_add,Int.natCast_mul,Int.cast_ofNat_Int]at c
   simp -implicitDefEqProofs [hM,hK,kAt,mkTo,bqL,bqR]
   refine c.view (by simp[vwOk,mtA,bkOb,qaa];try exact List.take_of_length_le (by simp[qaa])) ?_
   simp -implicitDefEqProofs [show ¬ ((k:Int)+11 * (b0.length:Int)+11 * (b1.length:Int)+11 * (b2.length:Int)+11 * (b3.length:Int)+11 * (b4.length:Int)+11 * (b5.length:Int)+11 * (b6.length:Int)+11 * (b7.length:Int)+11 * (b8.length:Int):Int)<0 by omega]
   exact nx 9 φ (by omega) (by omega) (h3:=by rw[hφ];simp[bqI]) (h4:=by rw[hφ];simp[hM,hK,kAt,mkTo,bqL,bqR,bqI,obOf,qaa])
  ·simp -implicitDefEqProofs [hM,hK,kAt,mkTo,bqL,bqR]
end Go.Av.F
end
