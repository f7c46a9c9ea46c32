/- Lemmas for the proof, no statement of the seat; no conditions. -/
import Derived.Test.YtcbjbdnmhlhijaaGreatDoorLayAR
set_option linter.unusedSimpArgs false
set_option linter.unusedVariables false
set_option linter.unnecessarySimpa false
set_option maxRecDepth 100000
section
namespace Go.Av.F
open Go Go.Av Go.Proofs Go.Proofs.Tryz
mutual
theorem frz_closed (id:Nat) (o:Ob):∀ (av:AV),clA av=true→frz id o av=av
 | .top,_=>by simp[frz]
 | .int _ _,_=>by simp[frz]
 | .bool _,_=>by simp[frz]
 | .str _,_=>by simp[frz]
 | .nilp,_=>by simp[frz]
 | .nils,_=>by simp[frz]
 | .nili,_=>by simp[frz]
 | .ifc,_=>by simp[frz]
 | .anyb,_=>by simp[frz]
 | .lst _ _,_=>by simp[frz]
 | .elm _,_=>by simp[frz]
 | .ptr _ _ _,h=>by simp[clA]at h
 | .sl _ _ _,h=>by simp[clA]at h
 | .bsl _ _ _ _ _,h=>by simp[clA]at h
 | .slc _ _ _ _,h=>by simp[clA]at h
 | .agg cs,h=>by simp only[clA]at h;simp[frz,frzL_closed id o cs h]
 | .tup cs,h=>by simp only[clA]at h;simp[frz,frzL_closed id o cs h]
 | .fn f cs,h=>by simp only[clA]at h;simp[frz,frzL_closed id o cs h]
theorem frzL_closed (id:Nat) (o:Ob):∀ (l:List AV),clL l=true→frzL id o l=l
 | [],_=>rfl
 | a::r,h=>by
  simp only[clL,Bool.and_eq_true]at h
  simp[frzL,frz_closed id o a h.1,frzL_closed id o r h.2]
end
theorem frzO_closed (id:Nat) (o x:Ob) (h:clR x.els=true):frzO id o x=x:=by
 have:x.els.map (frzL id o)=x.els:=by
  conv=>rhs;rw[← List.map_id x.els]
  exact List.map_congr_left fun r hr=>frzL_closed id o r (List.all_eq_true.1 h r hr)
 unfold frzO
 rw[this]
@[simp] theorem frzO_de (id:Nat) (o:Ob) (l:List DE):frzO id o (deOb l)=deOb l:=frzO_closed id o _ (qbh l)
@[simp] theorem frzO_kcs (id:Nat) (o:Ob) (l:List CS):frzO id o (kcs l)=kcs l:=frzO_closed id o _ (qak l)
@[simp] theorem frzO_kpt (id:Nat) (o:Ob) (l:List PT):frzO id o (kpt l)=kpt l:=frzO_closed id o _ (qbd l)
@[simp] theorem frzO_kin (id:Nat) (o:Ob) (l:List Int):frzO id o (kin l)=kin l:=frzO_closed id o _ (qan l)
def runOb (d:DK) (fr:List Int) (txg:Int) (ok:Bool):Ob:=⟨6,[[.lst 1 (d.s0.map qaf),.lst 1 (d.s1.map qaf),.lst 3 (d.late.map LT.row),.lst 1 (fr.map qad),.int .i64 txg,.bool ok]]⟩
@[simp] theorem renOb_run (ρ:Nat→Option Plc) (d:DK) (fr:List Int) (txg:Int) (ok:Bool):renOb ρ (runOb d fr txg ok)=runOb d fr txg ok:=by simp[runOb,renOb]
theorem clR_run (d:DK) (fr:List Int) (txg:Int) (ok:Bool):clR (runOb d fr txg ok).els=true:=by simp[clR,runOb,qaf,LT.row,qad]
theorem sPutC (d:DK) (h:DkT d) (a:Int) (fr:List Int) (txg:Int) (ok:Bool) (text:List UInt8) (ht:text.length≤1048576) :
  ACall prog 316 [.ptr 1000 0 0,.str text] [(1000,runOb d (a::fr) txg ok)]
   (fun r L'=>r=.agg (blkToB a text txg).row∧L'=[(1000,runOb (qaq d a text).1 fr txg (ok && (qaq d a text).2))]):=by
 have c1:=sBlkWriteC d h a text ht
 have c2:=sBlkToC a text txg (by simp[maxLen];omega)
 obtain⟨R,hR⟩:∃ R,qaq d a text=R:=⟨_,rfl⟩
 rw[hR]at c1 ⊢
 simp only[DK.row]at c1
 cases ok
 all_goals
  refine acx func316 [] ntmps316 rfl rfl rfl ?_
  simp -implicitDefEqProofs [runOb,qad]
  refine c1.call ?_
  simp -implicitDefEqProofs
  refine c2.call ?_
  simp -implicitDefEqProofs [PT.row]
  exact qap qad fr
structure RS where
 d:DK
 fr:List Int
 ok:Bool
deriving DecidableEq,Inhabited
def rsPut (txg:Int) (r:RS) (text:List UInt8):PT×RS:=(blkToB (r.fr.headD 0) text txg,⟨(qaq r.d (r.fr.headD 0) text).1,r.fr.tail,r.ok && (qaq r.d (r.fr.headD 0) text).2⟩)
def setsB (txg:Int):List CS→RS→List CS×RS
 | [],r=>([],r)
 | s::q,r=>if s.dirty=true then (⟨s.name,s.kind,s.frm,s.map,(rsPut txg r (qbz s.map)).1,false⟩::(setsB txg q (rsPut txg r (qbz s.map)).2).1,(setsB txg q (rsPut txg r (qbz s.map)).2).2)
   else (s::(setsB txg q r).1,(setsB txg q r).2)
def ptsB (txg:Int):List (List UInt8)→RS→List PT×RS
 | [],r=>([],r)
 | t::q,r=>((rsPut txg r t).1::(ptsB txg q (rsPut txg r t).2).1,(ptsB txg q (rsPut txg r t).2).2)
def qai (d:DK) (c:CO):RS×CO×PT :=
 let x:=setsB (c.txg+1) c.sets ⟨d,freeB c d.s0.length,true⟩
 let y:=if c.dirty=true then ptsB (c.txg+1) (partsT c.ddt) x.2 else (c.parts,x.2)
 let c2:CO:=⟨c.txg,x.1,c.ddt,y.1,false,c.safe,c.logn⟩
 let z:=rsPut (c.txg+1) y.2 (qbg c2)
 (z.2,c2,z.1)
theorem bWrite_ok {d:DK} (h:dOkB d=true) (a:Int) (t:List UInt8):dOkB (qaq d a t).1=true∧(qaq d a t).1.s0.length=d.s0.length:=by
 have key:∀ (d:DK) (side:Int),dOkB d=true→dOkB (qbl d side a t).1=true∧(qbl d side a t).1.s0.length=d.s0.length∧(qbl d side a t).1.late.length≤d.late.length+1:=fun d side h=>by
  obtain⟨g1,g2,g3,g4,g5,g6,g7⟩:=dOk_len h
  unfold qbl
  rw[if_neg (by simp[h])]
  split
  ·exact⟨h,rfl,by simp⟩
  ·rename_i hn
   simp only[not_or]at hn
   refine⟨?_,rfl,by simp⟩
   simp only[dOkB,Bool.and_eq_true,decide_eq_true_eq,List.all_eq_true]
   refine⟨⟨⟨⟨⟨⟨g1,g2⟩,g3⟩,by simp;omega⟩,g5⟩,g6⟩,fun w hw=>?_⟩
   rcases List.mem_append.1 hw with hw | hw
   ·exact g7 w hw
   ·simp only[List.mem_cons,List.not_mem_nil,or_false]at hw
    subst hw
    show qbw d side a t=true
    simpa using hn.1
 unfold qaq
 rw[if_neg (by simp[h])]
 split
 ·exact⟨h,rfl⟩
 ·have k1:=key d 0 h
  split
  ·exact⟨k1.1,k1.2.1⟩
  ·have k2:=key (qbl d 0 a t).1 1 k1.1
   exact⟨k2.1,by rw[k2.2.1,k1.2.1]⟩
theorem setsB_len (txg:Int):∀ (l:List CS) (r:RS),(setsB txg l r).1.length=l.length
 | [],r=>rfl
 | s::q,r=>by
  simp only[setsB]
  split <;> simp[setsB_len txg q]
theorem mapText_len (m:List PT) (h8:m.length=8):(qbz m).length≤1000:=by
 have key:∀ (l:List PT) (b:Bool) (t:List UInt8),ptsText l b=some t→t.length≤30 * l.length:=fun l=>by
  induction l with
  | nil=>intro b t h;simp only[ptsText,Option.some.injEq]at h;subst h;simp
  | cons p r ih =>
   intro b t h
   simp only[ptsText]at h
   split at h
   ·cases h
   ·cases hr:ptsText r false with
    | none=>rw[hr]at h;cases h
    | some u =>
     rw[hr]at h
     simp only[Option.map_some,Option.some.injEq]at h
     have:=ih false u hr
     have hp:=ptText_len p
     rw[← h]
     split <;> simp <;> omega
 unfold qbz
 cases h:ptsText m true with
 | none=>simp
 | some t=>have:=key m true t h;simp;omega
theorem renL_cs1 (ρ:Nat→Option Plc) (s:CS):renL ρ s.row=s.row:=renL_closed.renL_closedL ρ _ (cs_cl s)
theorem cs_27 (s:CS) (h8:s.map.length=8):List.take 27 s.row=.str s.name::.int .i64 s.kind::.str s.frm::s.map.flatMap PT.row∧List.drop 30 s.row=[.bool s.dirty]:=by
 have hl:(s.map.flatMap PT.row).length=24:=by
  rw[List.length_flatMap];exact sum3 h8
 have e:s.row=(.str s.name::.int .i64 s.kind::.str s.frm::s.map.flatMap PT.row)++(s.home.row++[.bool s.dirty]):=by simp[CS.row]
 have hh:s.home.row.length=3:=rfl
 constructor
 ·rw[e];exact List.take_left' (by simp[hl])
 ·rw[e,← List.append_assoc];exact List.drop_left' (by simp[hl])
theorem cs_upd (s:CS) (h8:s.map.length=8) (p:PT):List.take 30 (List.take 27 s.row++.int .i64 p.pa::.int .i64 p.ps::.int .i64 p.pb::List.drop 30 s.row) ++
  .bool false::List.drop 31 (List.take 27 s.row++.int .i64 p.pa::.int .i64 p.ps::.int .i64 p.pb::List.drop 30 s.row)=CS.row ⟨s.name,s.kind,s.frm,s.map,p,false⟩:=by
 have hl:(s.map.flatMap PT.row).length=24:=by
  rw[List.length_flatMap];exact sum3 h8
 obtain⟨h1,h2⟩:=cs_27 s h8
 rw[h1,h2]
 have e:(.str s.name::.int .i64 s.kind::.str s.frm::s.map.flatMap PT.row)++(.int .i64 p.pa::.int .i64 p.ps::.int .i64 p.pb::[AV.bool s.dirty])=((.str s.name::.int .i64 s.kind::.str s.frm::s.map.flatMap PT.row)++[.int .i64 p.pa,.int .i64 p.ps,.int .i64 p.pb])++[.bool s.dirty]:=by simp
 rw[e,List.take_left' (by simp[hl]),List.drop_of_length_le (by simp[hl])]
 simp[CS.row]
def zCO:List AV:=[.int .i64 0,.nils,.nils,.nils,.bool false,.nils,.int .i64 0]
@[simp] theorem renL_zCO (ρ:Nat→Option Plc):renL ρ zCO=zCO:=by simp[zCO]
def blS (c:CO) (d:DK) (fr:List Int):S :=
 ⟨mkT [(3,.ptr 3 0 0),(5,.ptr 5 0 0),(6,.ptr 6 0 0),(7,.ptr 25 0 0),(8,.int .i64 0)],
  hpOf [(3,⟨7,[[.int .i64 c.txg,.sl 8 0 c.sets.length,.sl 12 0 c.ddt.length,.sl 17 0 c.parts.length,.bool c.dirty,.sl 22 0 c.safe.length,.int .i64 c.logn]]⟩),(5,⟨7,[zCO]⟩),(6,⟨3,[[.int .i64 0,.int .i64 0,.int .i64 0]]⟩),
   (8,kcs c.sets),(12,deOb c.ddt),(17,kpt c.parts),(22,kin c.safe),(25,runOb d fr (c.txg+1) true)],Us.of [3,5,6,8,12,17,22,25]⟩
theorem setsB_mem (txg:Int):∀ (l:List CS) (r:RS),∀ s∈(setsB txg l r).1,∃ t∈l,s.map=t.map∧s.name=t.name∧s.frm=t.frm∧s.kind=t.kind
 | [],r,s,hs=>by simp[setsB]at hs
 | t::q,r,s,hs=>by
  simp only[setsB]at hs
  split at hs
  ·rcases List.mem_cons.1 hs with rfl | hs
   ·exact⟨t,by simp,rfl,rfl,rfl,rfl⟩
   ·obtain⟨u,hu,h⟩:=setsB_mem txg q _ s hs
    exact⟨u,by simp[hu],h⟩
  ·rcases List.mem_cons.1 hs with rfl | hs
   ·exact⟨s,by simp,rfl,rfl,rfl,rfl⟩
   ·obtain⟨u,hu,h⟩:=setsB_mem txg q _ s hs
    exact⟨u,by simp[hu],h⟩
theorem rootText_len (c:CO):(qbg c).length≤4+64 * c.sets.length+64 * c.parts.length:=by
 have k1:∀ (l:List CS) (t:List UInt8),rootSets l=some t→t.length≤64 * l.length:=fun l=>by
  induction l with
  | nil=>intro t h;simp only[rootSets,Option.some.injEq]at h;subst h;simp
  | cons s r ih =>
   intro t h
   simp only[rootSets]at h
   split at h
   ·cases h
   ·rename_i hs
    cases hr:rootSets r with
    | none=>rw[hr]at h;cases h
    | some u =>
     rw[hr]at h
     simp only[Option.map_some,Option.some.injEq]at h
     have:=ih u hr
     have hp:=rootSet_len (s:=s) (by simpa using hs)
     rw[← h]
     simp;omega
 have k2:∀ (l:List PT) (t:List UInt8),qcg l=some t→t.length≤64 * l.length:=fun l=>by
  induction l with
  | nil=>intro t h;simp only[qcg,Option.some.injEq]at h;subst h;simp
  | cons p r ih =>
   intro t h
   simp only[qcg]at h
   split at h
   ·cases h
   ·cases hr:qcg r with
    | none=>rw[hr]at h;cases h
    | some u =>
     rw[hr]at h
     simp only[Option.map_some,Option.some.injEq]at h
     have:=ih u hr
     have hp:=ptText_len p
     rw[← h]
     simp;omega
 unfold qbg
 cases h1:rootSets c.sets with
 | none=>simp
 | some t =>
  cases h2:qcg c.parts with
  | none=>simp
  | some u =>
   have:=k1 _ _ h1
   have:=k2 _ _ h2
   simp;omega
theorem ddText_len (l:List DE):(ddText l).length≤30 * l.length:=by
 have key:∀ (l:List DE) (b:Bool),(∀ e∈l,deOkB e=true)→(desText l b).length≤30 * l.length:=fun l=>by
  induction l with
  | nil=>intro b h;simp[desText]
  | cons e r ih =>
   intro b h
   have h1:=ih false fun x hx=>h x (by simp[hx])
   have h2:=deText_len (h e (by simp))
   simp only[desText]
   split <;> simp <;> omega
 unfold ddText
 split
 ·rename_i h
  exact key l true (ddt_de h)
 ·simp
theorem partsN_mem:∀ (k:Nat) (l:List DE),∀ t∈partsN k l,t.length≤180
 | 0,l,t,h=>by simp[partsN]at h
 | k+1,l,t,h=>by
  simp only[partsN]at h
  split at h
  ·simp at h
  ·rcases List.mem_cons.1 h with rfl | h
   ·have:=ddText_len (l.take 6)
    simp at this;omega
   ·exact partsN_mem k _ t h
def blS2 (c:CO) (cur:List CS) (rs:RS):S :=
 ⟨mkT [(3,.ptr 3 0 0),(5,.ptr 5 0 0),(6,.ptr 6 0 0),(7,.ptr 25 0 0),(9,.lst 1 ((partsT c.ddt).map qaf)),(10,.int .i64 0)],
  hpOf [(3,⟨7,[[.int .i64 c.txg,.sl 8 0 c.sets.length,.sl 12 0 c.ddt.length,.sl 900 0 0,.bool c.dirty,.sl 22 0 c.safe.length,.int .i64 c.logn]]⟩),(5,⟨7,[zCO]⟩),(6,⟨3,[[.int .i64 0,.int .i64 0,.int .i64 0]]⟩),
   (8,kcs cur),(12,deOb c.ddt),(22,kin c.safe),(25,runOb rs.d rs.fr (c.txg+1) rs.ok),(900,kpt [])],Us.of [3,5,6,8,12,22,25,900]⟩
@[simp] theorem frzO_run (id:Nat) (o:Ob) (d:DK) (fr:List Int) (txg:Int) (ok:Bool):frzO id o (runOb d fr txg ok)=runOb d fr txg ok:=frzO_closed id o _ (clR_run d fr txg ok)
theorem take_set1 {α:Type} {l:List α} {i:Nat} {x:α} (h:i<l.length):(l.set i x).take (i+1)=l.take i++[x]:=by
 rw[List.take_add_one,List.getElem?_set_self h,List.take_set_of_le (by omega)]
 rfl
theorem sBlocksO (d:DK) (hd:dOkB d=true) (c:CO) (h:CoT c) (hm:CoM c) (hf:needsB c≤(freeB c d.s0.length).length) (ht:-1000000≤c.txg∧c.txg≤10000000) :
  ACall prog 243 [.agg d.row,.agg c.row] [] (fun r L'=>∃ p,(p=17∨p=900)∧r=.tup [.ptr 25 0 0,coreA (qai d c).2.1 8 12 p 22,.agg (qai d c).2.2.row] ∧
   L'=[(8,kcs (qai d c).2.1.sets),(12,deOb c.ddt),(p,kpt (qai d c).2.1.parts),(22,kin c.safe),(25,runOb (qai d c).1.d (qai d c).1.fr (c.txg+1) (qai d c).1.ok)]):=by
 have h1:=hm.sets
 have h2:=hm.ddt
 have h3:=hm.parts
 have hl:=dOk_len hd
 have ck:=sKCopyO c h
 have cf:=sFreeO c h d.s0.length (by omega)
 have e1:=i64w (c.txg+1) (by omega) (by omega)
 refine acx func243 [(2,[zJ 0 [2] [],zJ 1 [3] [2],zJ 2 [] [2,3],zJ 3 [] [2,3],zJ 4 [2] [2,3],zJ 5 [] [2,3],zJ 7 [] [2,3],zJ 8 [3] [2,3],zJ 9 [] [2,3],zJ 6 [] [2,3],zI 10,zI 11,zI 12]),(7,[zI 0,zJ 1 [3] [],zJ 2 [] [3],zJ 3 [] [3],zJ 4 [] [3],zJ 5 [3] [3],zJ 6 [] [3],zJ 7 [8] [3],zJ 8 [] [3],zJ 9 [8] [3],zJ 10 [] [3],zJ 11 [] [3],zJ 12 [8] [],zI 13,zI 14]),(15,[zI 0,zJ 1 [3] [],zJ 2 [] [3],zJ 3 [] [3],zJ 4 [] [3],zJ 5 [] [3],zJ 6 [] [3],zJ 7 [] [3],zJ 8 [] [3],zI 9,zI 10,zI 11]),(18,[zI 0,zJ 1 [3] [],zJ 2 [11] [3],zJ 3 [] [3,11],zJ 4 [] [11],zI 5])] ntmps243 rfl rfl rfl ?_
 simp -implicitDefEqProofs [CO.row,DK.row]
 simp only[CO.row]at ck cf
 refine qab [] (by kernel_rfl) ck (by simp) (by simpa [CO.row]using co_cl c) trivial (by simp) (by simp) ?_
 rintro r L' ⟨rfl,rfl⟩
 refine⟨[(8,8),(12,12),(17,17),(22,22)],⟨by simp,by simp,by simp,by simp,by simp⟩,?_⟩
 simp only[qae]
 simp -implicitDefEqProofs [coreA,CO.row,DK.row]
 refine qay [] (by kernel_rfl) cf (by simp[vwOk,mtA,kcs,deOb,kpt,kin,qap,cs_cl]) (by simp) trivial (by simp) (by simp) ?_
 rintro r L' ⟨rfl,rfl⟩
 refine⟨by simp,by simp[kin,qad],[(900,20)],⟨by simp,by simp,by simp,by simp,by simp⟩,?_⟩
 simp only[qae]
 simp -implicitDefEqProofs [e1]
 refine ev_sw (s':=blS c d (freeB c d.s0.length)) (sw_fr 20 (o:=kin (freeB c d.s0.length)) (by simp) (by simpa [clR]using qan _) (by simp) (by simp) [3,5,6,7,8] [(3,3),(5,5),(6,6),(8,8),(12,12),(17,17),(22,22),(25,25)] (by simp[qag]) (by simp[-frzO,canon,obOf,blS];simp[frzO,runOb,zCO,kin,qap])) ?_
 simp only[blS]
 have hX:∃ X,setsB (c.txg+1) c.sets ⟨d,freeB c d.s0.length,true⟩=X:=⟨_,rfl⟩
 obtain⟨X,hX⟩:=hX
 refine ev_lp (X:=Nat×List CS×RS) [3,5,6,7,8] [(3,3),(5,5),(6,6),(8,8),(12,12),(17,17),(22,22),(25,25)] (fun x=>[(8,.int .i64 x.1)]) (fun x=>[(8,kcs x.2.1),(25,runOb x.2.2.d x.2.2.fr (c.txg+1) x.2.2.ok)]) (fun x=>c.sets.length-x.1)
  (fun x=>x.1≤c.sets.length∧x.2.1.length=c.sets.length∧x.2.1.drop x.1=c.sets.drop x.1∧dOkB x.2.2.d=true∧dirtN (c.sets.drop x.1)+(1+if c.dirty=true then (partsT c.ddt).length else 0)≤x.2.2.fr.length ∧
   (x.2.1.take x.1++(setsB (c.txg+1) (c.sets.drop x.1) x.2.2).1,(setsB (c.txg+1) (c.sets.drop x.1) x.2.2).2)=X) (0,c.sets,⟨d,freeB c d.s0.length,true⟩) ⟨by simp,rfl,rfl,hd,by simp only[List.drop_zero];unfold needsB at hf;omega,by simpa using hX⟩ ?_ (he:=by simp[obOf,runOb])
 rintro⟨i,cur,rs⟩ ⟨hi,hcl,hcd,hok,hfr,hX2⟩
 simp only at hi hcl hcd hok hfr hX2
 cases hr:c.sets.drop i with
 | nil =>
  have:=dropn hr
  rw[hr]at hX2 hfr
  have hie:i=c.sets.length:=by omega
  subst hie
  rw[List.take_of_length_le (by omega)]at hX2
  simp only[setsB,List.append_nil]at hX2
  simp -implicitDefEqProofs [obOf,hcl]
  subst hX2
  have hm8:∀ s∈cur,s.map.length=8∧s.name.length≤1048576∧s.frm.length≤1048576:=fun s hs=>by
   have hq:=setsB_mem (c.txg+1) c.sets ⟨d,freeB c d.s0.length,true⟩ s (by rw[hX];exact hs)
   obtain⟨t,ht,e1,e2,e3,_⟩:=hq
   rw[e1,e2,e3]
   exact⟨h.m8 t ht,h.nm t ht⟩
  refine⟨fun hdt=>?_,fun hdt=>?_⟩
  ·have co:=sPartsO c.ddt (by omega)
   refine qay [] (by kernel_rfl) co (by simp[vwOk,mtA,deOb,qap]) (by simp) trivial (by simp) (by simp) ?_
   rintro r L' ⟨rfl,rfl⟩
   refine⟨by simp,by simp[strOb,qaf],[(900,62)],⟨by simp,by simp,by simp,by simp,by simp⟩,?_⟩
   simp only[qae]
   simp -implicitDefEqProofs
   refine ev_sw (s':=blS2 c cur rs) ((sw_pht 900 3 (by simp)).trans ((sw_impc 3 3 (sz:=7) (row:=[.int .i64 c.txg,.sl 8 0 c.sets.length,.sl 12 0 c.ddt.length,.nils,.bool c.dirty,.sl 22 0 c.safe.length,.int .i64 c.logn]) (by simp) (by simp) (impA_sl0 900 0)).trans
    (sw_fr 62 (o:=strOb (partsT c.ddt)) (by simp) (by simp[strOb,qaf]) (by simp) (by simp) [3,5,6,7,9,10] [(3,3),(5,5),(6,6),(8,8),(12,12),(22,22),(25,25),(900,900)] (by simp[qag]) (by simp[-frzO,canon,obOf,blS2];simp[frzO,strOb,qap,zCO,kpt])))) ?_
   simp only[blS2]
   obtain⟨T,hT0⟩:∃ T,partsT c.ddt=T:=⟨_,rfl⟩
   have hTl:T.length≤1000:=by rw[← hT0];have:(partsT c.ddt).length≤c.ddt.length:=partsN_len _ _;omega
   obtain⟨Y,hY⟩:∃ Y,ptsB (c.txg+1) T rs=Y:=⟨_,rfl⟩
   rw[hdt,hT0]at hfr
   simp only[dirtN,List.countP_nil,if_true]at hfr
   have hTt:∀ t∈T,t.length≤1048576:=fun t ht=>by
    rw[← hT0]at ht
    have:=partsN_mem c.ddt.length c.ddt t ht
    omega
   rw[hT0]
   refine ev_lp (X:=Nat×List PT×RS) [3,5,6,7,9,10] [(3,3),(5,5),(6,6),(8,8),(12,12),(22,22),(25,25),(900,900)] (fun x=>[(10,.int .i64 x.1)])
    (fun x=>[(3,⟨7,[[.int .i64 c.txg,.sl 8 0 c.sets.length,.sl 12 0 c.ddt.length,.sl 900 0 x.2.1.length,.bool c.dirty,.sl 22 0 c.safe.length,.int .i64 c.logn]]⟩),(25,runOb x.2.2.d x.2.2.fr (c.txg+1) x.2.2.ok),(900,kpt x.2.1)]) (fun x=>T.length-x.1)
    (fun x=>x.1≤T.length∧x.2.1.length=x.1∧dOkB x.2.2.d=true∧(T.length-x.1)+1≤x.2.2.fr.length∧(x.2.1++(ptsB (c.txg+1) (T.drop x.1) x.2.2).1,(ptsB (c.txg+1) (T.drop x.1) x.2.2).2)=Y) (0,[],rs) ⟨by simp,rfl,hok,by simp only;omega,by simpa using hY⟩ ?_ (he:=by simp[obOf])
   rintro⟨i,ps,rs'⟩ ⟨hi,hpl,hok',hfr',hY2⟩
   simp only at hi hpl hok' hfr' hY2
   cases hr2:T.drop i with
   | nil =>
    have:=dropn hr2
    rw[hr2]at hY2
    have hie:i=T.length:=by omega
    simp only[ptsB,List.append_nil]at hY2
    subst hie
    subst hY2
    obtain⟨a,fr,hfe⟩:∃ a fr,rs'.fr=a::fr:=by
     cases hh:rs'.fr with
     | nil=>rw[hh]at hfr';simp at hfr'
     | cons a fr=>exact⟨a,fr,rfl⟩
    obtain⟨rd,rf,rok⟩:=rs'
    simp only at hfe hok' hfr' hY
    subst hfe
    obtain⟨c2,hc2⟩:∃ c2:CO,c2=⟨c.txg,cur,c.ddt,ps,false,c.safe,c.logn⟩:=⟨_,rfl⟩
    have hT:CoT c2:=by
     subst hc2
     exact⟨by simp only;omega,h.ddt,by simp only;omega,h.safe,fun s hs=>(hm8 s hs).1,fun s hs=>(hm8 s hs).2⟩
    have cr:=sRootC c2 hT
    have hrl:(qbg c2).length≤1048576:=by
     have:=rootText_len c2
     have k1:c2.sets.length≤1000:=by subst hc2;simp only;omega
     have k2:c2.parts.length≤1000:=by subst hc2;simp only;omega
     omega
    have cp:=sPutC rd (dOk_T hok') a fr (c.txg+1) rok (qbg c2) hrl
    have hb:qai d c=(⟨(qaq rd a (qbg c2)).1,fr,rok && (qaq rd a (qbg c2)).2⟩,c2,blkToB a (qbg c2) (c.txg+1)):=by
     unfold qai
     simp only[hX,hdt,if_true,hT0,hY,← hc2,rsPut,List.headD_cons,List.tail_cons]
    have cr':=cr
    simp only[CO.row]at cr'
    simp -implicitDefEqProofs [obOf]
    refine cr'.view (by simp[vwOk,mtA,kcs,deOb,kpt,kin,qap,cs_cl,hc2,hdt,hcl];rw[← hcl];exact qap _ _) ?_
    simp -implicitDefEqProofs
    refine qab [(1000,.whole 25)] (by kernel_rfl) cp (by simp) (by simp) (by simp;exact qaa rfl (clR_run _ _ _ _)) (by simp) (by simp) ?_
    rintro r L' ⟨rfl,rfl⟩
    refine⟨[],⟨by simp,by simp,by simp,by simp,by simp⟩,?_⟩
    simp only[qae]
    simp -implicitDefEqProofs [PT.row]
    rw[hb]
    subst hc2
    simp[hcl,hdt]
   | cons t q =>
    obtain⟨k1,e0,e1',k3⟩:=dropc hr2
    rw[hr2]at hY2
    have hli:(i:Int)<T.length:=by omega
    have e2:=i64w ((i:Int)+1) (by omega) (by omega)
    obtain⟨a,fr,hfe⟩:∃ a fr,rs'.fr=a::fr:=by
     cases hh:rs'.fr with
     | nil=>rw[hh]at hfr';simp at hfr'
     | cons a fr=>exact⟨a,fr,rfl⟩
    obtain⟨rd,rf,rok⟩:=rs'
    simp only at hfe hok' hfr' hY2
    subst hfe
    have cp:=sPutC rd (dOk_T hok') a fr (c.txg+1) rok t (hTt t (List.mem_of_getElem? e1'))
    have hbo:=bWrite_ok hok' a t
    simp only[ptsB,rsPut,List.headD_cons,List.tail_cons]at hY2
    simp only[List.length_cons]at hfr'
    simp -implicitDefEqProofs [obOf,hli,k1,e0,e1',qaf]
    refine qab [(1000,.whole 25)] (by kernel_rfl) cp (by simp) (by simp) (by simp;exact qaa rfl (clR_run _ _ _ _)) (by simp) (by simp) ?_
    rintro r L' ⟨rfl,rfl⟩
    refine⟨[],⟨by simp,by simp,by simp,by simp,by simp⟩,?_⟩
    simp only[qae]
    simp -implicitDefEqProofs [PT.row,kpt,hpl]
    refine⟨by omega,nx (i+1,ps++[blkToB a t (c.txg+1)],⟨(qaq rd a t).1,fr,rok && (qaq rd a t).2⟩) [(3,3),(5,5),(6,6),(8,8),(12,12),(22,22),(25,25),(79,900)] ⟨by simp only;omega,by simp[hpl],hbo.1,by simp only;omega,by simp only[k3];rw[List.append_assoc];exact hY2⟩ (by simp only;omega) (h4:=?_)⟩
    have htk:List.take i (ps.map PT.row)=ps.map PT.row:=List.take_of_length_le (by simp[hpl])
    simp[obOf,kpt,e2,hpl,PT.row,htk]
  ·rw[hdt]at hfr
   simp only[dirtN,List.countP_nil,Bool.false_eq_true,if_false]at hfr
   obtain⟨a,fr,hfe⟩:∃ a fr,rs.fr=a::fr:=by
    cases hh:rs.fr with
    | nil=>rw[hh]at hfr;simp at hfr
    | cons a fr=>exact⟨a,fr,rfl⟩
   obtain⟨rd,rf,rok⟩:=rs
   simp only at hfe hok hX
   subst hfe
   obtain⟨c2,hc2⟩:∃ c2:CO,c2=⟨c.txg,cur,c.ddt,c.parts,false,c.safe,c.logn⟩:=⟨_,rfl⟩
   have hT:CoT c2:=by
    subst hc2
    exact⟨by simp only;omega,h.ddt,h.parts,h.safe,fun s hs=>(hm8 s hs).1,fun s hs=>(hm8 s hs).2⟩
   have cr:=sRootC c2 hT
   have hrl:(qbg c2).length≤1048576:=by
    have:=rootText_len c2
    have k1:c2.sets.length≤1000:=by subst hc2;simp only;omega
    have k2:c2.parts.length≤1000:=by subst hc2;exact h3
    omega
   have cp:=sPutC rd (dOk_T hok) a fr (c.txg+1) rok (qbg c2) hrl
   have hb:qai d c=(⟨(qaq rd a (qbg c2)).1,fr,rok && (qaq rd a (qbg c2)).2⟩,c2,blkToB a (qbg c2) (c.txg+1)):=by
    unfold qai
    simp only[hX,hdt,Bool.false_eq_true,if_false,← hc2,rsPut,List.headD_cons,List.tail_cons]
   have cr':=cr
   simp only[CO.row]at cr'
   refine cr'.view (by simp[vwOk,mtA,kcs,deOb,kpt,kin,qap,cs_cl,hc2,hdt,hcl];rw[← hcl];exact qap _ _) ?_
   simp -implicitDefEqProofs
   refine qab [(1000,.whole 25)] (by kernel_rfl) cp (by simp) (by simp) (by simp;exact qaa rfl (clR_run _ _ _ _)) (by simp) (by simp) ?_
   rintro r L' ⟨rfl,rfl⟩
   refine⟨[],⟨by simp,by simp,by simp,by simp,by simp⟩,?_⟩
   simp only[qae]
   simp -implicitDefEqProofs [PT.row]
   rw[hb]
   subst hc2
   simp[hcl,hdt]
 | cons s q =>
  obtain⟨k1,e0,e1',k3⟩:=dropc hr
  rw[hr]at hX2 hfr hcd
  obtain⟨m1,m0,m2,m3⟩:=dropc hcd
  have h8:=h.m8 s (List.mem_of_getElem? e1')
  have hli:(i:Int)<c.sets.length:=by omega
  have e2:=i64w ((i:Int)+1) (by omega) (by omega)
  have hx30:=cs_dty s h8
  have hx30':=(List.getElem?_eq_some_iff.1 hx30).2
  simp -implicitDefEqProofs [obOf,hcl,k1,m1,m0,m2,hli,qas s h8,hx30,hx30',e2,kcs]
  have c1:=sCoreMapC s.map h8
  have hml:=mapText_len s.map h8
  refine⟨fun q1=>?_,fun q1=>?_⟩
  ·have hfr1:0<rs.fr.length:=by
    have:dirtN (s::q)=dirtN q+1:=by simp[dirtN,List.countP_cons,q1]
    omega
   obtain⟨a,fr,hfe⟩:∃ a fr,rs.fr=a::fr:=by
    cases hh:rs.fr with
    | nil=>rw[hh]at hfr1;simp at hfr1
    | cons a fr=>exact⟨a,fr,rfl⟩
   obtain⟨rd,rf,rok⟩:=rs
   simp only at hfe hok hfr hX2
   subst hfe
   have cp:=sPutC rd (dOk_T hok) a fr (c.txg+1) rok (qbz s.map) (by omega)
   have hbo:=bWrite_ok hok a (qbz s.map)
   rw[cs_map24 s h8]
   refine c1.call ?_
   simp -implicitDefEqProofs
   refine qab [(1000,.whole 25)] (by kernel_rfl) cp (by simp) (by simp) (by simp;exact qaa rfl (clR_run _ _ _ _)) (by simp) (by simp) ?_
   rintro r L' ⟨rfl,rfl⟩
   refine⟨[],⟨by simp,by simp,by simp,by simp,by simp⟩,?_⟩
   simp only[qae]
   simp -implicitDefEqProofs [hcl,k1,m1,m0,m2,hli,qas s h8]
   have hdn:dirtN (s::q)=dirtN q+1:=by simp[dirtN,List.countP_cons,q1]
   simp only[setsB,if_pos q1,rsPut,List.headD_cons,List.tail_cons]at hX2
   simp only[List.length_cons]at hfr
   refine nx (i+1,cur.set i ⟨s.name,s.kind,s.frm,s.map,blkToB a (qbz s.map) (c.txg+1),false⟩,⟨(qaq rd a (qbz s.map)).1,fr,rok && (qaq rd a (qbz s.map)).2⟩) [(3,3),(5,5),(6,6),(8,8),(12,12),(17,17),(22,22),(25,25)]
    ⟨by simp only;omega,by simpa using hcl,by simp only;rw[List.drop_set_of_lt (by omega),m3,k3],hbo.1,by simp only[k3];omega,?_⟩ (by simp only;omega) (h4:=?_)
   ·simp only[k3]
    rw[take_set1 m1,List.append_assoc]
    exact hX2
   ·simp[obOf,kcs,qas s h8,e2]
    rw[cs_upd s h8,renL_cs1]
  ·have hdn:dirtN (s::q)=dirtN q:=by simp[dirtN,List.countP_cons,q1]
   simp only[setsB,q1,Bool.false_eq_true,if_false]at hX2
   exact nx (i+1,cur,rs) [(3,3),(5,5),(6,6),(8,8),(12,12),(17,17),(22,22),(25,25)] ⟨by simp only;omega,hcl,by simp only;rw[m3,k3],hok,by simp only[k3];omega,by simp only[k3];rw[List.take_add_one,m2];simpa using hX2⟩ (by simp only;omega) (h4:=by simp[obOf,e2,kcs])
end Go.Av.F
end
section
namespace Go.Av
open Go Go.Proofs
variable {P:Program}
theorem ACall.frzP {f:Nat} {args:List AV} {R R':AV→List (Nat×Ob)→Prop} (h:ACall P f args [] R)
  (hr:∀ r L',R r L'→∃ A L2,L'=A++L2∧A.length≤20∧(L'.map (·.1)).Nodup∧(∀ x∈L',clR x.2.els=true)∧R' (frzAll A r) L2):ACall P f args [] R':=by
 have key:∀ (n:Nat) (R:AV→List (Nat×Ob)→Prop),ACall P f args [] R →
   (∀ r L',R r L'→∃ A L2,L'=A++L2∧A.length≤n∧(L'.map (·.1)).Nodup∧(∀ x∈L',clR x.2.els=true)∧R' (frzAll A r) L2)→ACall P f args [] R':=by
  intro n
  induction n with
  | zero =>
   intro R h hr
   refine h.mono fun r L' hR=>?_
   obtain⟨A,L2,rfl,hl,_,_,hv⟩:=hr r L' hR
   have:A=[]:=List.eq_nil_of_length_eq_zero (by omega)
   subst this
   exact hv
  | succ n ih =>
   intro R h hr
   refine ih (fun r L'=>∃ A L2,L'=A++L2∧A.length≤n∧(L'.map (·.1)).Nodup∧(∀ x∈L',clR x.2.els=true)∧R' (frzAll A r) L2) (h.frz1 fun r L' hR=>?_) fun r L' h=>h
   obtain⟨A,L2,rfl,hl,hn,hc,hv⟩:=hr r L' hR
   cases A with
   | nil=>exact .inl ⟨[],L2,rfl,by simp,hn,hc,hv⟩
   | cons x A2 =>
    obtain⟨id,o⟩:=x
    simp only[List.cons_append,List.map_cons,List.nodup_cons,List.mem_cons,List.length_cons]at hn hc hl
    exact .inr ⟨id,o,A2++L2,rfl,hn.1,hc _ (.inl rfl),fun x hx=>hc x (.inr hx),A2,L2,rfl,by omega,hn.2,fun x hx=>hc x (.inr hx),hv⟩
 exact key 20 R h hr
end Go.Av
namespace Go.Av.F
open Go Go.Av Go.Proofs Go.Proofs.Tryz
theorem uberText_len (txg:Int) (p:PT):(uberText txg p).length≤70000:=by
 unfold uberText
 split
 ·simp
 ·exact sealB_len _
def ringB (d:DK) (txg:Int) (p:PT):DK×Bool:=qaq d (1+txg % 4) (uberText txg p)
theorem sRingC (d:DK) (h:DkT d) (txg:Int) (p:PT) (ht:0≤txg∧txg≤10000000):CV prog 244 [.agg d.row,.int .i64 txg,.agg p.row] (.tup [.agg (ringB d txg p).1.row,.bool (ringB d txg p).2]):=by
 have c1:=sUberC txg p
 have hl:=uberText_len txg p
 have c2:=sBlkWriteC d h (1+txg % 4) (uberText txg p) (by omega)
 unfold ringB
 generalize qaq d (1+txg % 4) (uberText txg p)=R at *
 simp only[DK.row,PT.row]at c1 c2
 have q2:txg.tmod 4=txg % 4:=Int.tmod_eq_emod_of_nonneg (by omega)
 have e1:=i64w (txg % 4) (by omega) (by omega)
 have e2:=i64w (1+txg % 4) (by omega) (by omega)
 refine cvx func244 [(1,[zJ 0 [3] [],zJ 1 [] [3],zJ 2 [] [3],zJ 3 [] [3],zJ 4 [] [3],zJ 5 [5] [3],zJ 6 [] [3],zI 7,zI 8,zI 9,zI 10,zI 11])] ntmps244 rfl rfl rfl ?_ (hca:=by simp[DK.row,PT.row]) (hcv:=by simp[DK.row])
 simp -implicitDefEqProofs [DK.row,PT.row,q2,e1,e2]
 refine c1.call ?_
 simp -implicitDefEqProofs
 refine c2.call ?_
 simp -implicitDefEqProofs
def mayDoB (d:DK) (c:CO):Bool:=decide (c.txg<1000000) && decide (needsB c≤(freeB c d.s0.length).length)
theorem sMayDoC (d:DK) (hd:DkT d) (c:CO) (h:CoT c) (hm:CoM c):CV prog 156 [.agg d.row,.agg c.row] (.bool (mayDoB d c)):=by
 have hl:=hd.l0
 have c1:=sFreeC c h d.s0.length (by omega)
 have c2:=sNeedsC c h hm
 unfold mayDoB
 generalize freeB c d.s0.length=l at *
 generalize needsB c=n at *
 simp only[CO.row]at c1 c2
 refine cvx func156 [(1,[zI 0,zJ 1 [3] [],zI 2,zI 3,zJ 4 [3] [],zJ 5 [] [3],zJ 6 [] [3],zJ 7 [2] [3],zJ 8 [] [3],zJ 11 [3] [3,2],zJ 9 [] [3],zJ 10 [] [3],zI 12,zI 13,zI 14,zI 15])] ntmps156 rfl rfl rfl ?_ (hca:=by simp[DK.row,co_cl])
 simp -implicitDefEqProofs [DK.row,CO.row]
 refine⟨fun q1=>?_,fun q1 q2=>by omega⟩
 refine c1.call ?_
 simp -implicitDefEqProofs [CO.row]
 refine c2.call ?_
 simp -implicitDefEqProofs
 simp[q1]
theorem sBlocksF (d:DK) (hd:dOkB d=true) (c:CO) (h:CoT c) (hm:CoM c) (hf:needsB c≤(freeB c d.s0.length).length) (ht:-1000000≤c.txg∧c.txg≤10000000) :
  ACall prog 243 [.agg d.row,.agg c.row] [] (fun r L'=>r=.tup [.ptr 25 0 0,.agg (qai d c).2.1.row,.agg (qai d c).2.2.row] ∧
   L'=[(25,runOb (qai d c).1.d (qai d c).1.fr (c.txg+1) (qai d c).1.ok)]):=by
 have hdd:(qai d c).2.1.ddt=c.ddt∧(qai d c).2.1.safe=c.safe:=⟨rfl,rfl⟩
 refine(sBlocksO d hd c h hm hf ht).frzP ?_
 rintro r L' ⟨p,hp,rfl,rfl⟩
 generalize qai d c=B at *
 refine⟨[(8,kcs B.2.1.sets),(12,deOb c.ddt),(p,kpt B.2.1.parts),(22,kin c.safe)],[(25,runOb B.1.d B.1.fr (c.txg+1) B.1.ok)],rfl,by simp,?_,?_,?_,rfl⟩
 ·rcases hp with rfl | rfl <;> simp
 ·intro x hx
  simp only[List.mem_cons,List.not_mem_nil,or_false]at hx
  rcases hx with rfl | rfl | rfl | rfl | rfl
  ·exact qak _
  ·exact qbh _
  ·exact qbd _
  ·exact qan _
  ·exact clR_run _ _ _ _
 ·rcases hp with rfl | rfl
  all_goals simp[frzAll,coreA,CO.row,kcs,kpt,kin,deOb,qap,hdd.1,hdd.2,PT.row]
end Go.Av.F
end
section
namespace Go.Av.F
open Go Go.Av Go.Proofs Go.Proofs.Tryz
theorem putP_fold (n m:Nat) (k:Nat):∀ (l:List LT) (p:List (List UInt8)×List (List UInt8)),p.1.length=n→p.2.length=m→(∀ x∈p.1,x.length≤k)→(∀ x∈p.2,x.length≤k)→(∀ w∈l,w.lx.length≤k) →
  (l.foldl putP p).1.length=n∧(l.foldl putP p).2.length=m∧(∀ x∈(l.foldl putP p).1,x.length≤k)∧∀ x∈(l.foldl putP p).2,x.length≤k
 | [],p,h1,h2,h3,h4,_=>⟨h1,h2,h3,h4⟩
 | w::q,p,h1,h2,h3,h4,h5=>by
  have hw:=h5 w (by simp)
  have hl:=putP_len p w
  refine putP_fold n m k q (putP p w) (by omega) (by omega) (fun x hx=>?_) (fun x hx=>?_) fun w hw=>h5 w (by simp[hw])
  ·unfold putP at hx
   split at hx
   ·rcases List.mem_or_eq_of_mem_set hx with hx | rfl
    ·exact h3 x hx
    ·exact hw
   ·exact h3 x hx
  ·unfold putP at hx
   split at hx
   ·exact h4 x hx
   ·rcases List.mem_or_eq_of_mem_set hx with hx | rfl
    ·exact h4 x hx
    ·exact hw
theorem flush_ok {d:DK} (h:dOkB d=true):dOkB (qbr d)=true∧(qbr d).s0.length=d.s0.length∧(qbr d).late=[]:=by
 obtain⟨g1,g2,g3,g4,g5,g6,g7⟩:=dOk_len h
 have k:=putP_fold d.s0.length d.s1.length 420 d.late (d.s0,d.s1) rfl rfl g5 g6 fun w hw=>(thereB_iff.1 (g7 w hw)).2.2
 unfold qbr
 rw[if_pos h]
 obtain⟨k1,k2,k3,k4⟩:=k
 refine⟨?_,k1,rfl⟩
 simp only[dOkB,Bool.and_eq_true,decide_eq_true_eq,List.all_eq_true]
 exact⟨⟨⟨⟨⟨⟨by omega,by omega⟩,by omega⟩,by simp⟩,k3⟩,k4⟩,by simp⟩
theorem rsPut_ok {r:RS} (h:dOkB r.d=true) (txg:Int) (t:List UInt8):dOkB (rsPut txg r t).2.d=true∧(rsPut txg r t).2.d.s0.length=r.d.s0.length:=bWrite_ok h _ t
theorem setsB_ok (txg:Int):∀ (l:List CS) (r:RS),dOkB r.d=true→dOkB (setsB txg l r).2.d=true∧(setsB txg l r).2.d.s0.length=r.d.s0.length
 | [],r,h=>⟨h,rfl⟩
 | s::q,r,h=>by
  simp only[setsB]
  split
  ·have h1:=rsPut_ok h txg (qbz s.map)
   have h2:=setsB_ok txg q _ h1.1
   exact⟨h2.1,by rw[h2.2,h1.2]⟩
  ·exact setsB_ok txg q r h
theorem ptsB_ok (txg:Int):∀ (l:List (List UInt8)) (r:RS),dOkB r.d=true→dOkB (ptsB txg l r).2.d=true∧(ptsB txg l r).2.d.s0.length=r.d.s0.length∧(ptsB txg l r).1.length=l.length
 | [],r,h=>⟨h,rfl,rfl⟩
 | t::q,r,h=>by
  simp only[ptsB]
  have h1:=rsPut_ok h txg t
  have h2:=ptsB_ok txg q _ h1.1
  exact⟨h2.1,by rw[h2.2.1,h1.2],by simp[h2.2.2]⟩
theorem blocks_ok {d:DK} (hd:dOkB d=true) (c:CO):dOkB (qai d c).1.d=true∧(qai d c).1.d.s0.length=d.s0.length:=by
 have h1:=setsB_ok (c.txg+1) c.sets ⟨d,freeB c d.s0.length,true⟩ hd
 unfold qai
 simp only
 split
 ·have h2:=ptsB_ok (c.txg+1) (partsT c.ddt) _ h1.1
  have h3:=rsPut_ok h2.1 (c.txg+1) (qbg ⟨c.txg,(setsB (c.txg+1) c.sets ⟨d,freeB c d.s0.length,true⟩).1,c.ddt,(ptsB (c.txg+1) (partsT c.ddt) (setsB (c.txg+1) c.sets ⟨d,freeB c d.s0.length,true⟩).2).1,false,c.safe,c.logn⟩)
  exact⟨h3.1,by rw[h3.2,h2.2.1,h1.2]⟩
 ·have h3:=rsPut_ok h1.1 (c.txg+1) (qbg ⟨c.txg,(setsB (c.txg+1) c.sets ⟨d,freeB c d.s0.length,true⟩).1,c.ddt,c.parts,false,c.safe,c.logn⟩)
  exact⟨h3.1,by rw[h3.2,h1.2]⟩
theorem blocks_T {d:DK} (hd:dOkB d=true) {c:CO} (h:CoT c) (hm:CoM c):CoT (qai d c).2.1∧CoM (qai d c).2.1:=by
 have h1:=setsB_len (c.txg+1) c.sets ⟨d,freeB c d.s0.length,true⟩
 have h2:=setsB_mem (c.txg+1) c.sets ⟨d,freeB c d.s0.length,true⟩
 have h3:=ptsB_ok (c.txg+1) (partsT c.ddt) _ (setsB_ok (c.txg+1) c.sets ⟨d,freeB c d.s0.length,true⟩ hd).1
 have h4:(partsT c.ddt).length≤c.ddt.length:=partsN_len _ _
 have e1:=hm.sets
 have e2:=hm.ddt
 have e3:=hm.parts
 have hp:(qai d c).2.1.parts.length≤1000:=by
  unfold qai
  simp only
  split
  ·exact Nat.le_trans (Nat.le_of_eq h3.2.2) (by omega)
  ·exact e3
 have hs:(qai d c).2.1.sets=(setsB (c.txg+1) c.sets ⟨d,freeB c d.s0.length,true⟩).1:=rfl
 refine⟨⟨by rw[hs];omega,h.ddt,by omega,h.safe,fun s hs'=>?_,fun s hs'=>?_⟩,⟨by rw[hs];omega,e2,hp⟩⟩
 ·obtain⟨t,ht,q1,q2,q3,_⟩:=h2 s (by rw[← hs];exact hs')
  rw[q1];exact h.m8 t ht
 ·obtain⟨t,ht,q1,q2,q3,_⟩:=h2 s (by rw[← hs];exact hs')
  rw[q2,q3];exact h.nm t ht
def doneB (d:DK) (c:CO):DK×CO×Int :=
 if (qai d c).1.ok=false then (d,(qai d c).2.1,7) else
 if (ringB (qbr (qai d c).1.d) (c.txg+1) (qai d c).2.2).2=false then (d,(qai d c).2.1,7) else
 (qbr (ringB (qbr (qai d c).1.d) (c.txg+1) (qai d c).2.2).1,
  ⟨c.txg+1,(qai d c).2.1.sets,(qai d c).2.1.ddt,(qai d c).2.1.parts,(qai d c).2.1.dirty,reachB (qai d c).2.1 (qai d c).2.2.pa,0⟩,0)
theorem sDoneC (d:DK) (hd:dOkB d=true) (c:CO) (h:CoT c) (hm:CoM c) (hf:needsB c≤(freeB c d.s0.length).length) (ht:0≤c.txg∧c.txg<1000000) :
  CV prog 157 [.agg d.row,.agg c.row] (.tup [.agg (doneB d c).1.row,.agg (doneB d c).2.1.row,.int .i64 (doneB d c).2.2]):=by
 obtain⟨R,hR⟩:∃ R,doneB d c=R:=⟨_,rfl⟩
 rw[hR]
 unfold doneB at hR
 have hb1:=blocks_ok hd c
 obtain⟨hb2,hb3⟩:=blocks_T hd h hm
 have cb:=sBlocksF d hd c h hm hf (by omega)
 generalize qai d c=B at *
 obtain⟨⟨bd,bf,bok⟩,c2,root⟩:=B
 simp only at hb1 hb2 hb3 cb hR
 have cf:=sFlushC bd (dOk_T hb1.1)
 have hf1:=flush_ok hb1.1
 have cr:=sRingC (qbr bd) (dOk_T hf1.1) (c.txg+1) root (by omega)
 have hr1:dOkB (ringB (qbr bd) (c.txg+1) root).1=true:=(bWrite_ok hf1.1 _ _).1
 have cg:=sFlushC (ringB (qbr bd) (c.txg+1) root).1 (dOk_T hr1)
 generalize ringB (qbr bd) (c.txg+1) root=G at *
 obtain⟨gd,gok⟩:=G
 simp only at cr hr1 cg hR
 have ce:=sReachC ⟨c.txg+1,c2.sets,c2.ddt,c2.parts,c2.dirty,c2.safe,c2.logn⟩ ⟨hb2.sets,hb2.ddt,hb2.parts,hb2.safe,hb2.m8,hb2.nm⟩ ⟨hb3.sets,hb3.ddt,hb3.parts⟩ root.pa
 have hre:reachB ⟨c.txg+1,c2.sets,c2.ddt,c2.parts,c2.dirty,c2.safe,c2.logn⟩ root.pa=reachB c2 root.pa:=rfl
 rw[hre]at ce
 simp only[DK.row,CO.row,PT.row]at cb cf cr cg ce
 refine cvx func157 [(3,[zJ 0 [2] [],zJ 1 [3] [2],zJ 2 [] [3],zI 3,zI 4]),(4,[zI 0,zI 1,zI 2,zJ 3 [14] [],zJ 5 [] [14],zJ 6 [] [14],zJ 7 [] [14],zJ 8 [14] [14],zJ 9 [8,14] [14],⟨4,[],[14,8],[14],[]⟩,⟨10,[],[],[14],[]⟩,zI 11,zI 12,zI 13,zJ 14 [] [14,8],zI 15,zI 16]),(6,[zJ 0 [2] [],zJ 1 [3] [2],zJ 2 [] [3],zI 3,zI 4]),(10,[zJ 0 [9] [],zJ 2 [3] [9],zJ 1 [] [3],zJ 3 [] [3],zI 4,zI 5])] ntmps157 rfl rfl rfl ?_ (hca:=by simp[DK.row,co_cl]) (hcv:=by simp[DK.row,co_cl])
 simp -implicitDefEqProofs [DK.row,CO.row,PT.row]
 refine qab [] (by kernel_rfl) cb (by simp) (by simp[DE.row,cs_cl,qad]) trivial (by simp) (by simp) ?_
 rintro r L' ⟨rfl,rfl⟩
 refine⟨[(25,14)],⟨by simp,by simp,by simp,by simp,by simp⟩,?_⟩
 simp only[qae]
 simp -implicitDefEqProofs [DK.row,CO.row,PT.row,runOb]
 refine⟨fun q1=>?_,fun q1=>?_⟩
 ·rw[if_pos q1]at hR
  subst hR
  simp
 ·rw[if_neg (by simp[q1])]at hR
  refine cf.call ?_
  simp -implicitDefEqProofs
  refine cr.call ?_
  cases gok with
  | false =>
   rw[if_pos rfl]at hR
   simp -implicitDefEqProofs [← hR]
  | true =>
   rw[if_neg (by simp)]at hR
   simp -implicitDefEqProofs
   refine ce.call ?_
   simp -implicitDefEqProofs
   refine cg.call ?_
   simp -implicitDefEqProofs [← hR]
def zK:CO:=⟨0,[],[],[],false,[],0⟩
theorem impA_zk:impA (.agg [.int .i64 0,.nils,.nils,.nils,.bool false,.nils,.int .i64 0]) (.agg zK.row) :=
 impA_ag (.cons (qba _) (.cons (qbn 31) (.cons (qbn 3) (.cons (qbn 3) (.cons (qba _) (.cons (qbn 1) (.cons (qba _) .nil)))))))
theorem qcc {c:CO} (h:qaj c=true):CoM c∧c.sets.length≤6∧c.ddt.length≤48∧c.parts.length≤8∧0≤c.txg∧c.txg≤1000000∧0≤c.logn∧c.logn≤8:=by
 have hb:=(okB_iff.1 (core_book h)).1
 have hd:=(ddt_ec (core_ddt h)).1
 simp only[qaj,Bool.and_eq_true,decide_eq_true_eq]at h
 have h1:=h.1.1.1.1.1.1.1.1.1.1.1
 have h2:=h.1.1.1.1.1.1.1.1.1.1.2
 have h3:=h.1.1.1.1.1.1.1.1.2
 have h4:=h.1.1.1.1.1.1.2
 have h5:=h.1.1.1.1.1.2
 simp only[List.length_map]at hb
 exact⟨⟨by omega,by omega,by omega⟩,hb,hd,h3,h1,h2,h4,h5⟩
def qbu (d:DK) (c:CO):DK×CO×Int :=
 if dOkB d=false∨qaj c=false∨d.s0.length≤13 then (zDK,zK,5) else
 if mayDoB d c=false then (d,c,7) else
 if (doneB d c).2.2≠0 then (d,c,(doneB d c).2.2) else doneB d c
theorem sCommitC (d:DK) (hd:DkT d) (c:CO) (h:CoT c):CV prog 73 [.agg d.row,.agg c.row] (.tup [.agg (qbu d c).1.row,.agg (qbu d c).2.1.row,.int .i64 (qbu d c).2.2]):=by
 obtain⟨R,hR⟩:∃ R,qbu d c=R:=⟨_,rfl⟩
 rw[hR]
 unfold qbu at hR
 have c1:=sDiskOkC d hd
 have c2:=sCoreOk c h
 have c3:=sCopyC d hd
 have c4:=sKCopyC c h
 have hl:=hd.l0
 refine CV.of_imp ?_ (hca:=by simp[DK.row,co_cl]) (hcv:=by simp[DK.row,co_cl])
 refine acx func73 [(4,[zJ 0 [2] [],zJ 2 [3] [2],zJ 1 [] [3],zI 3,zI 4,zI 5,zI 6]),(5,[zJ 0 [2] [],zJ 2 [3] [2],⟨1,[],[3],[8,9],[]⟩,⟨3,[],[],[8,9],[]⟩,zI 4,zI 5,zI 6,zI 7,zJ 8 [] [2,3],zJ 9 [] [2,3],zI 10,zI 11,zI 12]),(7,[zJ 0 [2] [],zJ 2 [3] [2],zJ 4 [] [2,3],zJ 1 [] [3],zI 3,zI 5,zI 6,zI 7]),(8,[zJ 0 [7] [],zJ 1 [8] [7],zJ 2 [] [7,8],zJ 3 [] [8],zI 4,zI 5])] ntmps73 rfl rfl rfl ?_
 simp only[DK.row,CO.row]at c1 c2 c3 c4
 simp -implicitDefEqProofs [DK.row,CO.row]
 refine c1.call ?_
 have zimp:impA (.tup [.agg [.nils,.nils,.nils],.agg [.int .i64 0,.nils,.nils,.nils,.bool false,.nils,.int .i64 0],.int .i64 5]) (.tup [.agg zDK.row,.agg zK.row,.int .i64 5]):=impA_tu (.cons impA_zd (.cons impA_zk (.cons (qba _) .nil)))
 cases hok:dOkB d with
 | false =>
  rw[if_pos (.inl hok)]at hR
  subst hR
  simp -implicitDefEqProofs
  simpa [zDK,zK,DK.row,CO.row]using zimp
 | true =>
  simp -implicitDefEqProofs [DK.row,CO.row]
  refine c2.call ?_
  cases hco:qaj c with
  | false =>
   rw[if_pos (.inr (.inl hco))]at hR
   subst hR
   simp -implicitDefEqProofs
   simpa [zDK,zK,DK.row,CO.row]using zimp
  | true =>
   obtain⟨hm,k1,k2,k3,k4,k5,k6,k7⟩:=qcc hco
   by_cases hn:d.s0.length≤13
   ·rw[if_pos (.inr (.inr hn))]at hR
    subst hR
    have hn':(d.s0.length:Int)≤13:=by omega
    simp -implicitDefEqProofs [hn',DK.row]
    simpa [zDK,zK,DK.row,CO.row]using zimp
   ·rw[if_neg (by simp[hok,hco,hn])]at hR
    have hn':¬ (d.s0.length:Int)≤13:=by omega
    have c5:=sMayDoC d hd c h hm
    simp only[DK.row,CO.row]at c5
    simp -implicitDefEqProofs [hn',DK.row,CO.row]
    refine c5.call ?_
    cases hma:mayDoB d c with
    | false =>
     rw[if_pos hma]at hR
     subst hR
     simp -implicitDefEqProofs
     refine c3.call ?_
     simp -implicitDefEqProofs
     refine c4.call ?_
     simp -implicitDefEqProofs
    | true =>
     rw[if_neg (by simp[hma])]at hR
     have hma2:=hma
     simp only[mayDoB,Bool.and_eq_true,decide_eq_true_eq]at hma2
     have c6:=sDoneC d hok c h hm hma2.2 (by omega)
     generalize doneB d c=D at *
     obtain⟨dd,dc,code⟩:=D
     simp only[DK.row,CO.row]at c6 hR
     simp -implicitDefEqProofs
     refine c3.call ?_
     simp -implicitDefEqProofs
     refine c6.call ?_
     simp -implicitDefEqProofs
     refine⟨fun q=>?_,fun q=>?_⟩
     ·rw[if_pos q]at hR
      subst hR
      refine c3.call ?_
      simp -implicitDefEqProofs
      refine c4.call ?_
      simp -implicitDefEqProofs
     ·rw[if_neg (by simp[q])]at hR
      subst hR
      simp -implicitDefEqProofs
end Go.Av.F
end
section
namespace Go.Av
open Go Go.Proofs
variable {P:Program}
theorem ACall.hps {f:Nat} {args:List AV} {L:List (Nat×Ob)} {R R':AV→List (Nat×Ob)→Prop} (h:ACall P f args L R) (hr:∀ r L',R r L'→∃ L2,(∀ i,hpOf L2 i=hpOf L' i)∧R' r L2):ACall P f args L R':=by
 intro w Z γ vs hv hh hg
 refine(h w Z γ vs hv hh hg).mono ?_
 rintro e w' ⟨v,r,L',Z',γ',h1,h2,h3⟩
 obtain⟨L2,he,hR⟩:=hr r L' h2
 have:hpOf L'=hpOf L2:=funext fun i=>(he i).symm
 rw[this]at h3
 exact⟨v,r,L2,Z',γ',h1,hR,h3⟩
end Go.Av
namespace Go.Av.F
open Go Go.Av Go.Proofs Go.Proofs.Tryz
def coreS (c:CO) (id:Nat):AV:=.agg [.int .i64 c.txg,.sl id 0 c.sets.length,.lst 3 (c.ddt.map DE.row),.lst 3 (c.parts.map PT.row),.bool c.dirty,.lst 1 (c.safe.map qad),.int .i64 c.logn]
theorem sKCopyS (c:CO) (h:CoT c):ACall prog 55 [.agg c.row] [] (fun r L'=>r=coreS c 8∧L'=[(8,kcs c.sets)]):=by
 refine((sKCopyO c h).hps (R':=fun r L'=>r=coreA c 8 12 17 22∧L'=[(12,deOb c.ddt),(17,kpt c.parts),(22,kin c.safe)]++[(8,kcs c.sets)]) ?_).frzP ?_
 ·rintro r L' ⟨rfl,rfl⟩
  refine⟨_,fun i=>?_,rfl,rfl⟩
  by_cases h1:i=8
  ·subst h1;simp
  ·by_cases h2:i=12
   ·subst h2;simp
   ·by_cases h3:i=17
    ·subst h3;simp
    ·by_cases h4:i=22
     ·subst h4;simp
     ·simp[h1,h2,h3,h4]
 ·rintro r L' ⟨rfl,rfl⟩
  refine⟨_,_,rfl,by simp,by simp,fun x hx=>?_,?_,rfl⟩
  ·simp only[List.cons_append,List.nil_append,List.mem_cons,List.not_mem_nil,or_false]at hx
   rcases hx with rfl | rfl | rfl | rfl
   ·exact qbh _
   ·exact qbd _
   ·exact qan _
   ·exact qak _
  ·simp[frzAll,coreA,coreS,deOb,kpt,kin,qap]
def refB (more:Bool) (l:List DE) (p:PT):List DE×Bool:=if more=true then ddAddB l p.ps p.pa else ddDropB l p.pa
def refsL (more:Bool):List PT→List DE×Bool×Bool→List DE×Bool×Bool
 | [],x=>x
 | p::q,x=>if p.pa=0 then refsL more q x else refsL more q ((refB more x.1 p).1,true,x.2.2 && (refB more x.1 p).2)
theorem refB_len (more:Bool) (l:List DE) (p:PT):(refB more l p).1.length≤l.length+1:=by
 unfold refB ddAddB ddDropB
 have:=ddP_le l p.pa
 repeat' split
 all_goals simp <;> omega
theorem flat_cell {l:List PT} {i k:Nat} {p:PT} (h:l[i]?=some p) (hk:k<3):(l.flatMap PT.row)[i * 3+k]?=p.row[k]?:=by
 have h2:=congrArg (fun r:List AV=>r[k]?) (flat_at h)
 simp only[List.getElem?_take,List.getElem?_drop,hk,if_true]at h2
 exact h2
theorem sRefsC (c:CO) (m:List PT) (h8:m.length=8) (more:Bool) (hd:c.ddt.length≤1000000) (hs:c.sets.length≤1048576) :
  ACall prog 155 [coreS c 1000,.agg (m.flatMap PT.row),.bool more] [(1000,kcs c.sets)]
   (fun r L'=>r=.tup [coreS ⟨c.txg,c.sets,(refsL more m (c.ddt,c.dirty,true)).1,c.parts,(refsL more m (c.ddt,c.dirty,true)).2.1,c.safe,c.logn⟩ 1000,.bool (refsL more m (c.ddt,c.dirty,true)).2.2]∧L'=[(1000,kcs c.sets)]):=by
 obtain⟨X,hX⟩:∃ X,refsL more m (c.ddt,c.dirty,true)=X:=⟨_,rfl⟩
 rw[hX]
 refine acx func155 [(8,[zI 0,zJ 1 [3] [],zJ 2 [] [3],zJ 3 [] [3],zJ 4 [] [3],zJ 5 [4] [3],zJ 6 [] [3,4],zJ 7 [] [3,4],zJ 8 [] [3,4],zJ 9 [4] [3,4],zI 10,zI 11,zI 12,zI 13,zI 14,zI 15,zI 16]),(9,[zI 0,zJ 1 [3] [],zJ 2 [] [3],zJ 3 [] [3],zJ 4 [] [3],zJ 5 [4] [3],zI 6,zI 7,zI 8,zI 9,zI 10,zI 11,zI 12])] ntmps155 rfl rfl rfl ?_
 simp -implicitDefEqProofs [coreS,sum3 h8]
 refine ev_lp (X:=Nat×(List DE×Bool×Bool)) [2,3,4,6,7,8,9] [(1000,1000),(3,3),(4,4),(6,6)] (fun x=>[(8,.bool x.2.2.2),(9,.int .i64 x.1)])
  (fun x=>[(3,⟨7,[[.int .i64 c.txg,.sl 1000 0 c.sets.length,.lst 3 (x.2.1.map DE.row),.lst 3 (c.parts.map PT.row),.bool x.2.2.1,.lst 1 (c.safe.map qad),.int .i64 c.logn]]⟩)]) (fun x=>8-x.1)
  (fun x=>x.1≤8∧x.2.1.length≤1000000+x.1∧refsL more (m.drop x.1) x.2=X) (0,(c.ddt,c.dirty,true)) ⟨by simp,by simp only;omega,by simpa using hX⟩ ?_ (he:=by simp[obOf])
 rintro⟨i,l,dt,ok⟩ ⟨hi,hl,hd2⟩
 simp only at hi hl hd2
 cases hr:m.drop i with
 | nil =>
  have:=dropn hr
  rw[hr]at hd2
  have hie:i=8:=by omega
  subst hie
  simp only[refsL]at hd2
  subst hd2
  simp -implicitDefEqProofs [obOf]
 | cons p q =>
  obtain⟨k1,e0,e1,k3⟩:=dropc hr
  rw[hr]at hd2
  simp only[refsL]at hd2
  have hi8:i<8:=by omega
  have hli:(i:Int)<8:=by omega
  have e2:=i64w ((i:Int)+1) (by omega) (by omega)
  have f0:=flat_cell e1 (k:=0) (by omega)
  have f1:=flat_cell e1 (k:=1) (by omega)
  have c1:=sAddC l p.ps p.pa (by omega)
  have c2:=sDropC l p.pa (by omega)
  have hrl:=refB_len more l p
  have f0':(m.flatMap PT.row)[i * 3]?=some (.int .i64 p.pa):=by simpa [PT.row]using f0
  have f1':(m.flatMap PT.row)[i * 3+1]?=some (.int .i64 p.ps):=by simpa [PT.row]using f1
  have hN:∀ (x:List DE×Bool×Bool),refsL more q x=X→x.1.length≤1000000+(i+1)→(i+1≤8∧x.1.length≤1000000+(i+1)∧refsL more (m.drop (i+1)) x=X):=fun x h1 h2=>⟨by omega,h2,by rw[k3];exact h1⟩
  simp -implicitDefEqProofs [obOf,hli,hi8,f0',f1']
  refine⟨by omega,fun q1=>?_,fun q1=>?_⟩
  ·rw[if_pos q1]at hd2
   exact nx (i+1,l,dt,ok) [(1000,1000),(3,3),(4,4),(6,6)] (hN _ hd2 (by simp only;omega)) (by simp only;omega) (h4:=by simp[obOf,e2])
  ·rw[if_neg q1]at hd2
   have hrl2:(refB more l p).1.length≤1000000+(i+1):=by omega
   cases more with
   | true =>
    have hrb:refB true l p=ddAddB l p.ps p.pa:=rfl
    rw[hrb]at hd2 hrl2
    generalize ddAddB l p.ps p.pa=Y at *
    obtain⟨yl,yo⟩:=Y
    simp -implicitDefEqProofs
    refine⟨by omega,by omega,?_⟩
    refine c1.call ?_
    cases ok
    all_goals
     simp -implicitDefEqProofs
     exact nx (i+1,yl,true,_) [(1000,1000),(3,3),(4,4),(6,6)] (hN _ hd2 hrl2) (by simp only;omega) (h4:=by simp[obOf,e2])
   | false =>
    have hrb:refB false l p=ddDropB l p.pa:=rfl
    rw[hrb]at hd2 hrl2
    generalize ddDropB l p.pa=Y at *
    obtain⟨yl,yo⟩:=Y
    simp -implicitDefEqProofs
    refine⟨by omega,?_⟩
    refine c2.call ?_
    cases ok
    all_goals
     simp -implicitDefEqProofs
     exact nx (i+1,yl,true,_) [(1000,1000),(3,3),(4,4),(6,6)] (hN _ hd2 hrl2) (by simp only;omega) (h4:=by simp[obOf,e2])
end Go.Av.F
end
section
namespace Go.Av.F
open Go Go.Av Go.Proofs Go.Proofs.Tryz
theorem logText_len (r:LR):(logText r).length≤70000:=by
 unfold logText
 split
 ·simp
 ·exact sealB_len _
def logPutB (d:DK) (c:CO) (op:BO):DK×CO×Bool :=
 if logText ⟨c.txg,c.logn,op⟩=[] then (d,c,false) else
 if (qaq d (5+c.logn) (logText ⟨c.txg,c.logn,op⟩)).2=false then (d,c,false) else
 ((qaq d (5+c.logn) (logText ⟨c.txg,c.logn,op⟩)).1,⟨c.txg,c.sets,c.ddt,c.parts,c.dirty,c.safe,c.logn+1⟩,true)
theorem sLogPutC (d:DK) (hd:DkT d) (c:CO) (op:BO) (hl:0≤c.logn∧c.logn≤1000) (ha:op.a.length≤1048576) (ht:op.text.length≤1048576) :
  CV prog 76 [.agg d.row,.agg c.row,.agg op.row] (.tup [.agg (logPutB d c op).1.row,.agg (logPutB d c op).2.1.row,.bool (logPutB d c op).2.2]):=by
 obtain⟨R,hR⟩:∃ R,logPutB d c op=R:=⟨_,rfl⟩
 rw[hR]
 unfold logPutB at hR
 have c1:=sLogTextC ⟨c.txg,c.logn,op⟩ ha ht
 have hlt:=logText_len ⟨c.txg,c.logn,op⟩
 have c2:=sBlkWriteC d hd (5+c.logn) (logText ⟨c.txg,c.logn,op⟩) (by omega)
 generalize logText ⟨c.txg,c.logn,op⟩=t at *
 generalize qaq d (5+c.logn) t=x at *
 obtain⟨xd,xo⟩:=x
 simp only[DK.row,LR.row,BO.row]at c1 c2
 have e1:=i64w (5+c.logn) (by omega) (by omega)
 have e2:=i64w (c.logn+1) (by omega) (by omega)
 refine cvx func76 [(3,[zJ 0 [3] [],zJ 1 [4] [3],zJ 2 [] [4],zI 3,zI 4]),(6,[zJ 0 [3] [],zJ 1 [4] [3],zJ 2 [] [4],zI 3,zI 4]),(8,[zJ 0 [10] [],zJ 1 [4] [10],zJ 2 [] [4],zI 3,zI 4])] ntmps76 rfl rfl rfl ?_ (hca:=by simp[DK.row,co_cl,BO.row]) (hcv:=by simp[DK.row,co_cl])
 simp -implicitDefEqProofs [DK.row,CO.row,BO.row]
 refine c1.call ?_
 by_cases h0:t=[]
 ·rw[if_pos h0]at hR
  subst hR
  simp -implicitDefEqProofs [h0]
 ·rw[if_neg h0]at hR
  simp -implicitDefEqProofs [h0,e1]
  refine c2.call ?_
  cases xo with
  | false =>
   rw[if_pos rfl]at hR
   subst hR
   simp -implicitDefEqProofs
  | true =>
   rw[if_neg (by simp)]at hR
   subst hR
   simp -implicitDefEqProofs [e2]
def findR (d:DK) (text:List UInt8):List DE→Int
 | []=>0
 | e::r=>if e.es=smB text∧(qcb d ⟨e.ea,smB text,0⟩).2=0∧(qcb d ⟨e.ea,smB text,0⟩).1=text then e.ea else findR d text r
def findDB (d:DK) (l:List DE) (text:List UInt8):Int:=if qau l=true then findR d text l else 0
theorem sFindC (d:DK) (hd:DkT d) (l:List DE) (text:List UInt8) (hl:l.length≤1048576) (ht:text.length≤maxLen) :
  CV prog 264 [.agg d.row,.lst 3 (l.map DE.row),.str text] (.int .i64 (findDB d l text)):=by
 obtain⟨R,hR⟩:∃ R,findDB d l text=R:=⟨_,rfl⟩
 rw[hR]
 unfold findDB at hR
 have c0:=sSumC text ht
 have c1:=sDdtOkC l hl
 refine cvx func264 [(6,[zJ 0 [3] [],zJ 1 [] [3],zJ 2 [] [3],zJ 3 [] [3],zJ 4 [] [3],zJ 5 [] [3],zJ 6 [] [3],zJ 7 [] [3],zI 8,zI 9,zI 10,zI 11,zI 12,zI 13])] ntmps264 rfl rfl rfl ?_ (hca:=by simp[DK.row,DE.row])
 simp -implicitDefEqProofs [DK.row]
 refine c0.call ?_
 simp -implicitDefEqProofs
 refine ev_lp (X:=Nat) [1,2,3,6,7,8] [(3,3)] (fun i=>[(8,.int .i64 i)]) (fun _=>[]) (fun i=>l.length-i) (fun i=>i≤l.length∧(if qau l=true then findR d text (l.drop i) else 0)=R) 0 ⟨by simp,by simpa using hR⟩ ?_ (he:=by simp[obOf])
 rintro i ⟨hi,hd2⟩
 cases hok:qau l with
 | false =>
  rw[hok]at c1
  rw[if_neg (by simp[hok])]at hd2
  simp -implicitDefEqProofs [obOf]
  refine c1.call ?_
  simp -implicitDefEqProofs [← hd2]
 | true =>
  rw[hok]at c1
  rw[if_pos hok]at hd2
  cases hr:l.drop i with
  | nil =>
   have:=dropn hr
   rw[hr]at hd2
   have hie:i=l.length:=by omega
   subst hie
   simp only[findR]at hd2
   simp -implicitDefEqProofs [obOf]
   refine c1.call ?_
   simp -implicitDefEqProofs [← hd2]
  | cons e q =>
   obtain⟨k1,e0,e1,k3⟩:=dropc hr
   rw[hr]at hd2
   simp only[findR]at hd2
   have hli:(i:Int)<l.length:=by omega
   have e2:=i64w ((i:Int)+1) (by omega) (by omega)
   have c2:=sBlkReadC d hd ⟨e.ea,smB text,0⟩
   have hN:¬ (e.es=smB text∧(qcb d ⟨e.ea,smB text,0⟩).2=0∧(qcb d ⟨e.ea,smB text,0⟩).1=text)→findR d text (l.drop (i+1))=R:=fun h=>by rw[if_neg h]at hd2;rw[k3];exact hd2
   have hY:(e.es=smB text∧(qcb d ⟨e.ea,smB text,0⟩).2=0∧(qcb d ⟨e.ea,smB text,0⟩).1=text)→e.ea=R:=fun h=>by rw[if_pos h]at hd2;exact hd2
   generalize qcb d ⟨e.ea,smB text,0⟩=Y at *
   obtain⟨yt,yc⟩:=Y
   simp only[DK.row,PT.row]at c2
   simp -implicitDefEqProofs [obOf]
   refine c1.call ?_
   simp -implicitDefEqProofs [hli,k1,e0,e1,DE.row,obOf]
   refine⟨fun q1=>?_,fun q1=>nx (i+1) [(3,3)] ⟨by omega,?_⟩ (h4:=by simp[obOf,e2])⟩
   ·refine c2.call ?_
    simp -implicitDefEqProofs
    refine⟨fun q2=>⟨fun q3=>?_,fun q3=>?_⟩,fun q2=>?_⟩
    ·exact⟨k1,by simp[e1,DE.row],by rw[e1];simpa [DE.row]using hY ⟨q1,q2,q3⟩⟩
    ·exact nx (i+1) [(3,3)] ⟨by omega,hN fun h=>q3 h.2.2⟩ (h4:=by simp[obOf,e2])
    ·exact nx (i+1) [(3,3)] ⟨by omega,hN fun h=>q2 h.2.1⟩ (h4:=by simp[obOf,e2])
   ·exact hN fun h=>q1 h.1
def blockB (d:DK) (c:CO) (text:List UInt8):DK×Int×Int :=
 if 0<findDB d c.ddt text then (d,findDB d c.ddt text,0) else
 if mayB c d.s0.length=false then (d,0,7) else
 if (qaq d ((freeB c d.s0.length).headD 0) text).2=false then (d,0,7) else
 ((qaq d ((freeB c d.s0.length).headD 0) text).1,(freeB c d.s0.length).headD 0,0)
theorem sBlockO (d:DK) (hd:DkT d) (c:CO) (h:CoT c) (text:List UInt8) (ht:text.length≤1048576) :
  ACall prog 158 [.agg d.row,coreS c 1000,.str text] [(1000,kcs c.sets)] (fun r L'=>r=.tup [.agg (blockB d c text).1.row,.int .i64 (blockB d c text).2.1,.int .i64 (blockB d c text).2.2]∧L'=[(1000,kcs c.sets)]):=by
 obtain⟨R,hR⟩:∃ R,blockB d c text=R:=⟨_,rfl⟩
 rw[hR]
 unfold blockB at hR
 have hl:=hd.l0
 have c1:=sFindC d hd c.ddt text h.ddt (by simp[maxLen];omega)
 have c2:=sMayC c h d.s0.length (by omega) (by omega)
 have c3:=sFreeO c h d.s0.length (by omega)
 have hmf:mayB c d.s0.length=true→0<(freeB c d.s0.length).length:=fun hm=>by
  simp only[mayB,Bool.and_eq_true,decide_eq_true_eq]at hm
  omega
 have c4:=sBlkWriteC d hd ((freeB c d.s0.length).headD 0) text ht
 have hcons:∀ l:List Int,0<l.length→∃ fr,l=l.headD 0::fr:=fun l hl=>by
  cases l with
  | nil=>simp at hl
  | cons x r=>exact⟨r,rfl⟩
 have hfe:=fun hm=>hcons _ (hmf hm)
 generalize findDB d c.ddt text=a at *
 generalize mayB c d.s0.length=m at *
 generalize freeB c d.s0.length=l at *
 generalize l.headD 0=b at *
 generalize qaq d b text=x at *
 obtain⟨xd,xo⟩:=x
 simp only[DK.row,CO.row]at c1 c2 c3 c4
 refine acx func158 [] ntmps158 rfl rfl rfl ?_
 simp -implicitDefEqProofs [DK.row,coreS]
 refine c1.call ?_
 by_cases h0:0<a
 ·rw[if_pos h0]at hR
  subst hR
  simp -implicitDefEqProofs [h0]
 ·rw[if_neg h0]at hR
  simp -implicitDefEqProofs [h0]
  refine c2.view (by simp[vwOk,mtA,kcs,qap,cs_cl]) ?_
  cases m with
  | false =>
   rw[if_pos rfl]at hR
   subst hR
   simp -implicitDefEqProofs
  | true =>
   rw[if_neg (by simp)]at hR
   obtain⟨fr,hf⟩:=hfe rfl
   subst hf
   ·simp -implicitDefEqProofs
    refine qay [] (by kernel_rfl) c3 (by simp[vwOk,mtA,kcs,qap,cs_cl]) (by simp) trivial (by simp) (by simp) ?_
    rintro r L' ⟨rfl,rfl⟩
    refine⟨by simp,by simp[kin,qad],[(900,33)],⟨by simp,by simp,by simp,by simp,by simp⟩,?_⟩
    simp only[qae]
    simp -implicitDefEqProofs [kin,qad]
    refine c4.call ?_
    cases xo with
    | false =>
     rw[if_pos rfl]at hR
     subst hR
     simp -implicitDefEqProofs
    | true =>
     rw[if_neg (by simp)]at hR
     subst hR
     simp -implicitDefEqProofs
def zPT:PT:=⟨0,0,0⟩
def oneM (p:PT):List PT:=[p,zPT,zPT,zPT,zPT,zPT,zPT,zPT]
def turnG (d x:DK) (c:CO) (k i:Nat) (s:CS) (old now:PT):DK×CO×Int :=
 let a:=refsL true (oneM now) (c.ddt,c.dirty,true)
 let b:=refsL false (oneM old) (a.1,a.2.1,true)
 if a.2.2=false∨b.2.2=false then (d,c,7) else
 (x,⟨c.txg,c.sets.set k ⟨s.name,s.kind,s.frm,s.map.set i now,s.home,true⟩,b.1,c.parts,b.2.1,c.safe,c.logn⟩,0)
def turnB (d:DK) (c:CO) (k i:Nat) (text:List UInt8):DK×CO×Int :=
 match c.sets[k]? with
 | none=>(d,c,7)
 | some s =>
  let old:=s.map[i]?.getD zPT
  if text=[] then turnG d d c k i s old zPT else
  if c.txg=1000000 then (d,c,7) else
  if (blockB d c text).2.2≠0 then (d,c,(blockB d c text).2.2) else
  if (blockB d c text).2.1=old.pa then ((blockB d c text).1,c,0) else
  turnG d (blockB d c text).1 c k i s old (blkToB (blockB d c text).2.1 text (c.txg+1))
theorem tk3 {X F:List AV} {n k:Nat} (h:X.length=k):List.take (k+n) (X++F)=X++List.take n F:=by
 subst h
 rw[List.take_append,List.take_of_length_le (by omega)]
 congr 2;omega
theorem dp3 {X F:List AV} {n k:Nat} (h:X.length=k):List.drop (k+n) (X++F)=List.drop n F:=by
 subst h
 rw[List.drop_append,List.drop_of_length_le (by omega),List.nil_append]
 congr 1;omega
theorem flat_set:∀ (l:List PT) (i:Nat) (p:PT),i<l.length→(l.set i p).flatMap PT.row=(l.flatMap PT.row).take (i * 3)++(p.row++(l.flatMap PT.row).drop (i * 3+3))
 | [],i,p,h=>by simp at h
 | x::q,0,p,h=>by simp[PT.row]
 | x::q,i+1,p,h=>by
  have ih:=flat_set q i p (by simpa using h)
  have hx:x.row.length=3:=rfl
  rw[List.set_cons_succ,List.flatMap_cons,ih,List.flatMap_cons,show(i+1) * 3=3+i * 3 by omega,tk3 hx,show 3+i * 3+3=3+(i * 3+3) by omega,dp3 hx,List.append_assoc]
theorem cs_turn (s:CS) (h8:s.map.length=8) {i:Nat} (hi:i<8) (p:PT):List.take 30 (List.take (3+i * 3) s.row++.int .i64 p.pa::.int .i64 p.ps::.int .i64 p.pb::List.drop (3+i * 3+3) s.row) ++
  .bool true::List.drop 31 (List.take (3+i * 3) s.row++.int .i64 p.pa::.int .i64 p.ps::.int .i64 p.pb::List.drop (3+i * 3+3) s.row)=CS.row ⟨s.name,s.kind,s.frm,s.map.set i p,s.home,true⟩:=by
 have hl:(s.map.flatMap PT.row).length=24:=by
  rw[List.length_flatMap];exact sum3 h8
 have hf:=flat_set s.map i p (by omega)
 have hh:s.home.row.length=3:=rfl
 have e:s.row=[.str s.name,.int .i64 s.kind,.str s.frm]++(s.map.flatMap PT.row++(s.home.row++[.bool s.dirty])):=by simp[CS.row]
 have h3:([.str s.name,.int .i64 s.kind,.str s.frm]:List AV).length=3:=rfl
 have t1:List.take (3+i * 3) s.row=[.str s.name,.int .i64 s.kind,.str s.frm]++(s.map.flatMap PT.row).take (i * 3):=by
  rw[e,tk3 h3,List.take_append_of_le_length (by omega)]
 have t2:List.drop (3+i * 3+3) s.row=(s.map.flatMap PT.row).drop (i * 3+3)++(s.home.row++[.bool s.dirty]):=by
  rw[e,show 3+i * 3+3=3+(i * 3+3) by omega,dp3 h3,List.drop_append_of_le_length (by omega)]
 rw[t1,t2]
 have e2:([.str s.name,.int .i64 s.kind,.str s.frm]++(s.map.flatMap PT.row).take (i * 3))++.int .i64 p.pa::.int .i64 p.ps::.int .i64 p.pb::((s.map.flatMap PT.row).drop (i * 3+3)++(s.home.row++[.bool s.dirty])) =
   ([.str s.name,.int .i64 s.kind,.str s.frm]++(((s.map.set i p).flatMap PT.row)++s.home.row))++[.bool s.dirty]:=by
  rw[hf];simp[PT.row]
 have hl2:((s.map.set i p).flatMap PT.row).length=24:=by
  rw[List.length_flatMap];exact sum3 (by simpa using h8)
 rw[e2,List.take_left' (by simp[hl2,hh]),List.drop_of_length_le (by simp[hl2,hh])]
 simp[CS.row]
theorem refsL_len (more:Bool):∀ (m:List PT) (x:List DE×Bool×Bool),(refsL more m x).1.length≤x.1.length+m.length
 | [],x=>by simp[refsL]
 | p::q,x=>by
  simp only[refsL]
  split
  ·have:=refsL_len more q x
   simp;omega
  ·have h1:=refsL_len more q ((refB more x.1 p).1,true,x.2.2 && (refB more x.1 p).2)
   have h2:=refB_len more x.1 p
   simp at h1 ⊢;omega
theorem sTurnO (d:DK) (hd:DkT d) (c:CO) (h:CoT c) (hm:CoM c) (k i:Nat) (hk:k<c.sets.length) (hi:i<8) (text:List UInt8) (ht:text.length≤1048576) (hx:0≤c.txg∧c.txg≤1000000) :
  ACall prog 75 [.agg d.row,.agg c.row,.int .i64 k,.int .i64 i,.str text] [] (fun r L'=>r=.tup [.agg (turnB d c k i text).1.row,coreS (turnB d c k i text).2.1 8,.int .i64 (turnB d c k i text).2.2]∧L'=[(8,kcs (turnB d c k i text).2.1.sets)]):=by
 obtain⟨R,hR⟩:∃ R,turnB d c k i text=R:=⟨_,rfl⟩
 rw[hR]
 unfold turnB at hR
 obtain⟨s,e0⟩:∃ s,c.sets[k]=s:=⟨_,rfl⟩
 have e1:c.sets[k]?=some s:=by rw[← e0];exact List.getElem?_eq_getElem hk
 have h8:=h.m8 s (List.mem_of_getElem? e1)
 obtain⟨old,f1⟩:∃ p,s.map[i]?=some p:=⟨_,List.getElem?_eq_getElem (by omega)⟩
 rw[e1]at hR
 simp only[f1,Option.getD_some]at hR
 have ck:=sKCopyS c h
 have cb:=sBlockO d hd c h text ht
 simp only[CO.row]at ck
 simp only[DK.row,coreS]at cb
 have hki:(k:Int)<c.sets.length:=by omega
 have hi8:(i:Int)<8:=by omega
 refine acx func75 [(6,[zJ 0 [5] [],zJ 1 [6] [5],zJ 2 [] [6],zI 3,zI 4]),(10,[zJ 0 [5] [],zJ 1 [6] [5],zJ 2 [] [5,6],zJ 3 [] [6],zI 4,zI 5]),(14,[zJ 0 [15] [],zJ 1 [6] [15],zJ 2 [] [6],zI 3,zI 4]),(18,[zJ 0 [5] [],zJ 1 [6] [5],zJ 2 [] [6],zI 3,zI 4]),(19,[zI 0,zJ 1 [21] [],zJ 2 [] [21],zJ 3 [] [21],zJ 4 [14] [21],zJ 5 [8] [14],zJ 6 [] [14],zI 7,zI 8]),(21,[zJ 0 [15] [],zJ 1 [21] [15],zJ 2 [] [21],zI 3,zI 4])] ntmps75 rfl rfl rfl ?_
 simp -implicitDefEqProofs [DK.row,CO.row]
 refine qab [] (by kernel_rfl) ck (by simp) (by simpa [CO.row]using co_cl c) trivial (by simp) (by simp) ?_
 rintro r L' ⟨rfl,rfl⟩
 refine⟨[(8,8)],⟨by simp,by simp,by simp,by simp,by simp⟩,?_⟩
 simp only[qae]
 have hok:∀ m:List PT,m.length=8→∀ (c2:CO) (more:Bool),c2.ddt.length≤1000000→c2.sets.length≤1048576→ACall prog 155 [coreS c2 1000,.agg (m.flatMap PT.row),.bool more] [(1000,kcs c2.sets)]
   (fun r L'=>r=.tup [coreS ⟨c2.txg,c2.sets,(refsL more m (c2.ddt,c2.dirty,true)).1,c2.parts,(refsL more m (c2.ddt,c2.dirty,true)).2.1,c2.safe,c2.logn⟩ 1000,.bool (refsL more m (c2.ddt,c2.dirty,true)).2.2]∧L'=[(1000,kcs c2.sets)]):=fun m h8 c2 more h1 h2=>sRefsC c2 m h8 more h1 h2
 by_cases ht0:text=[]
 ·rw[if_pos ht0]at hR
  simp -implicitDefEqProofs [coreS,CO.row,DK.row,hki,hk,e0,e1,kcs,qas s h8,hi8,cs_map s f1,ht0]
  refine⟨by omega,?_⟩
  obtain⟨A,hA⟩:∃ A,refsL true (oneM zPT) (c.ddt,c.dirty,true)=A:=⟨_,rfl⟩
  have r1:=hok (oneM zPT) rfl c true (by have:=hm.ddt;omega) (by have:=hm.sets;omega)
  rw[hA]at r1
  have hAl:A.1.length≤1008:=by
   have:=refsL_len true (oneM zPT) (c.ddt,c.dirty,true)
   rw[hA]at this
   have:=hm.ddt
   simp[oneM]at *
   omega
  obtain⟨B,hB⟩:∃ B,refsL false (oneM old) (A.1,A.2.1,true)=B:=⟨_,rfl⟩
  have r2:=hok (oneM old) rfl ⟨c.txg,c.sets,A.1,c.parts,A.2.1,c.safe,c.logn⟩ false (by simp only;omega) (by have:=hm.sets;simp only;omega)
  simp only[hB]at r2
  unfold turnG at hR
  simp only[hA,hB]at hR
  obtain⟨al,ad,ao⟩:=A
  obtain⟨bl,bd,bo⟩:=B
  simp only[coreS,oneM,zPT,List.flatMap_cons,List.flatMap_nil,PT.row,List.cons_append,List.nil_append]at r1 r2
  refine qab [(1000,.whole 8)] (by kernel_rfl) r1 (by simp) (by simp) (by simp[kcs];exact qaa rfl (qak _)) (by simp) (by simp) ?_
  rintro r L' ⟨rfl,rfl⟩
  refine⟨[],⟨by simp,by simp,by simp,by simp,by simp⟩,?_⟩
  simp only[qae]
  simp -implicitDefEqProofs
  refine qab [(1000,.whole 8)] (by kernel_rfl) r2 (by simp) (by simp) (by simp;exact qaa rfl (qak _)) (by simp) (by simp) ?_
  rintro r L' ⟨rfl,rfl⟩
  refine⟨[],⟨by simp,by simp,by simp,by simp,by simp⟩,?_⟩
  simp only[qae]
  simp -implicitDefEqProofs [kcs,hki,hk,e0,e1,hi8,qas s h8]
  have hrow:=cs_turn s h8 hi zPT
  simp only[zPT]at hrow
  cases ao with
  | false =>
   rw[if_pos (.inl rfl)]at hR
   subst hR
   simp
  | true =>
   cases bo with
   | false =>
    rw[if_pos (.inr rfl)]at hR
    subst hR
    simp
   | true =>
    rw[if_neg (by simp)]at hR
    subst hR
    simp[hrow,List.map_set]
    exact⟨by omega,rfl⟩
 ·rw[if_neg ht0]at hR
  by_cases hx0:c.txg=1000000
  ·rw[if_pos hx0]at hR
   subst hR
   simp -implicitDefEqProofs [coreS,CO.row,DK.row,hki,hk,e0,e1,kcs,qas s h8,hi8,cs_map s f1,ht0,hx0]
   omega
  ·rw[if_neg hx0]at hR
   simp -implicitDefEqProofs [coreS,CO.row,DK.row,hki,hk,e0,e1,kcs,qas s h8,hi8,cs_map s f1,ht0,hx0]
   refine⟨by omega,?_⟩
   refine qab [(1000,.whole 8)] (by kernel_rfl) cb (by simp) (by simp) (by simp[kcs];exact qaa rfl (qak _)) (by simp) (by simp) ?_
   rintro r L' ⟨rfl,rfl⟩
   refine⟨[],⟨by simp,by simp,by simp,by simp,by simp⟩,?_⟩
   simp only[qae]
   obtain⟨X,hX⟩:∃ X,blockB d c text=X:=⟨_,rfl⟩
   simp only[hX]at hR ⊢
   obtain⟨xd,xa,xc⟩:=X
   have e5:=i64w (c.txg+1) (by omega) (by omega)
   have ct:=sBlkToC xa text (c.txg+1) (by simp[maxLen];omega)
   simp only[PT.row]at ct
   simp -implicitDefEqProofs [e5]
   refine⟨fun q1=>?_,fun q1=>?_⟩
   ·simp only[q1,ne_eq,not_false_eq_true,if_true]at hR
    subst hR
    exact⟨rfl,⟨rfl,rfl,rfl⟩,⟨rfl,rfl,rfl,rfl,rfl,rfl,rfl⟩,rfl⟩
   ·simp only[q1,ne_eq,not_true_eq_false,if_false]at hR
    refine ct.call ?_
    simp -implicitDefEqProofs
    refine⟨fun q2=>?_,fun q2=>?_⟩
    ·rw[if_pos q2]at hR
     subst hR
     exact⟨rfl,⟨rfl,rfl,rfl⟩,⟨rfl,rfl,rfl,rfl,rfl,rfl,rfl⟩,rfl⟩
    ·rw[if_neg q2]at hR
     obtain⟨A,hA⟩:∃ A,refsL true (oneM (blkToB xa text (c.txg+1))) (c.ddt,c.dirty,true)=A:=⟨_,rfl⟩
     have r1:=hok (oneM (blkToB xa text (c.txg+1))) rfl c true (by have:=hm.ddt;omega) (by have:=hm.sets;omega)
     rw[hA]at r1
     have hAl:A.1.length≤1008:=by
      have:=refsL_len true (oneM (blkToB xa text (c.txg+1))) (c.ddt,c.dirty,true)
      rw[hA]at this
      have:=hm.ddt
      simp[oneM]at *
      omega
     obtain⟨B,hB⟩:∃ B,refsL false (oneM old) (A.1,A.2.1,true)=B:=⟨_,rfl⟩
     have r2:=hok (oneM old) rfl ⟨c.txg,c.sets,A.1,c.parts,A.2.1,c.safe,c.logn⟩ false (by simp only;omega) (by have:=hm.sets;simp only;omega)
     simp only[hB]at r2
     unfold turnG at hR
     simp only[hA,hB]at hR
     obtain⟨al,ad,ao⟩:=A
     obtain⟨bl,bd,bo⟩:=B
     simp only[coreS,oneM,zPT,List.flatMap_cons,List.flatMap_nil,PT.row,List.cons_append,List.nil_append]at r1 r2
     refine qab [(1000,.whole 8)] (by kernel_rfl) r1 (by simp) (by simp) (by simp[kcs];exact qaa rfl (qak _)) (by simp) (by simp) ?_
     rintro r L' ⟨rfl,rfl⟩
     refine⟨[],⟨by simp,by simp,by simp,by simp,by simp⟩,?_⟩
     simp only[qae]
     simp -implicitDefEqProofs
     refine qab [(1000,.whole 8)] (by kernel_rfl) r2 (by simp) (by simp) (by simp;exact qaa rfl (qak _)) (by simp) (by simp) ?_
     rintro r L' ⟨rfl,rfl⟩
     refine⟨[],⟨by simp,by simp,by simp,by simp,by simp⟩,?_⟩
     simp only[qae]
     simp -implicitDefEqProofs [kcs,hki,hk,e0,e1,hi8,qas s h8]
     have hrow:=cs_turn s h8 hi (blkToB xa text (c.txg+1))
     cases ao with
     | false =>
      rw[if_pos (.inl rfl)]at hR
      subst hR
      simp
     | true =>
      cases bo with
      | false =>
       rw[if_pos (.inr rfl)]at hR
       subst hR
       simp
      | true =>
       rw[if_neg (by simp)]at hR
       subst hR
       simp[hrow,List.map_set]
       omega
theorem sTurnC (d:DK) (hd:DkT d) (c:CO) (h:CoT c) (hm:CoM c) (k i:Nat) (hk:k<c.sets.length) (hi:i<8) (text:List UInt8) (ht:text.length≤1048576) (hx:0≤c.txg∧c.txg≤1000000) :
  CV prog 75 [.agg d.row,.agg c.row,.int .i64 k,.int .i64 i,.str text] (.tup [.agg (turnB d c k i text).1.row,.agg (turnB d c k i text).2.1.row,.int .i64 (turnB d c k i text).2.2]):=by
 refine CV.of_frz (sTurnO d hd c h hm k i hk hi text ht hx) ?_ (hca:=by simp[DK.row,co_cl]) (hcv:=by simp[DK.row,co_cl])
 rintro r L' ⟨rfl,rfl⟩
 refine⟨by simp,by simp,fun x hx=>by
  simp only[List.mem_cons,List.not_mem_nil,or_false]at hx
  rcases hx with rfl
  exact qak _,?_⟩
 simp[frzAll,DK.row,CO.row,coreS,kcs,qap]
def nmP (l:List CS) (n:List UInt8):Nat:=(l.takeWhile fun x=>Op.bytesLess x.name n).length
theorem nmP_le (l:List CS) (n:List UInt8):nmP l n≤l.length:=(List.takeWhile_prefix _).length_le
def newB' (c:CO) (s:CS):CO×Bool :=
 let x:=refsL true s.map (c.ddt,c.dirty,true)
 (⟨c.txg,c.sets.take (nmP c.sets s.name)++⟨s.name,s.kind,s.frm,s.map,s.home,true⟩::c.sets.drop (nmP c.sets s.name),x.1,c.parts,x.2.1,c.safe,c.logn⟩,x.2.2)
theorem cs_dirt (s:CS) (h8:s.map.length=8):List.take 30 s.row++.bool true::List.drop 31 s.row=CS.row ⟨s.name,s.kind,s.frm,s.map,s.home,true⟩:=by
 have hl:(s.map.flatMap PT.row).length=24:=by
  rw[List.length_flatMap];exact sum3 h8
 have hh:s.home.row.length=3:=rfl
 have e:s.row=(.str s.name::.int .i64 s.kind::.str s.frm::(s.map.flatMap PT.row++s.home.row))++[.bool s.dirty]:=by simp[CS.row]
 have h30:(.str s.name::.int .i64 s.kind::.str s.frm::(s.map.flatMap PT.row++s.home.row):List AV).length=30:=by simp[hl,hh]
 rw[List.drop_of_length_le (by rw[qas s h8];omega),e,List.take_left' h30]
 simp[CS.row]
theorem sNewO (c:CO) (hm:CoM c) (h8:∀ s∈c.sets,s.map.length=8) (s:CS) (hs8:s.map.length=8) :
  ACall prog 154 [coreS c 1000,.agg s.row] [(1000,kcs c.sets)] (fun r L'=>r=.tup [coreS (newB' c s).1 41,.bool (newB' c s).2]∧L'=[(41,kcs (newB' c s).1.sets)]):=by
 have h1:=hm.sets
 have hk:=nmP_le c.sets s.name
 have hnl:s.row.length=31:=qas s hs8
 refine acx func154 [(2,[zI 0,zI 1,zJ 2 [2] [],zI 3,zI 4,zI 5,zI 6,zJ 7 [2] [],zJ 8 [] [2],zJ 9 [1000] [],zI 10,zJ 11 [1000] [],zJ 12 [] [2,1000],zJ 13 [3] [2,1000],zI 14,zI 15]),(6,[zI 0,zJ 1 [2] [],zJ 2 [] [2],zJ 3 [1000] [],zJ 4 [3] [2,1000],zJ 7 [] [2,1000,3],zJ 5 [] [2,1000],zI 6,zI 8,zI 9,zI 10])] ntmps154 rfl rfl rfl ?_
 simp -implicitDefEqProofs [coreS,qas s hs8]
 refine ev_lp (X:=Nat) [2,3,4,5,6] [(1000,1000),(2,2),(3,3),(4,4)] (fun i=>[(6,.int .i64 i)]) (fun _=>[]) (fun i=>c.sets.length-i) (fun i=>i≤c.sets.length∧i+nmP (c.sets.drop i) s.name=nmP c.sets s.name) 0 (by simp) ?_ (he:=by simp[obOf])
 rintro i ⟨hi,hd⟩
 cases hr:c.sets.drop i with
 | nil =>
  have:=dropn hr
  rw[hr]at hd
  have hie:i=c.sets.length:=by omega
  have hf:nmP c.sets s.name=i:=by simpa [nmP]using hd.symm
  subst hie
  obtain⟨S2,hS2⟩:∃ S2:CS,S2=⟨s.name,s.kind,s.frm,s.map,s.home,true⟩:=⟨_,rfl⟩
  have hrow:=cs_dirt s hs8
  rw[← hS2]at hrow
  have hS28:S2.map.length=8:=by rw[hS2];exact hs8
  have hS2m:S2.map=s.map:=by rw[hS2]
  obtain⟨c2,hc2⟩:∃ c2:CO,c2=⟨c.txg,c.sets++S2::([]:List CS),c.ddt,c.parts,c.dirty,c.safe,c.logn⟩:=⟨_,rfl⟩
  have hN:newB' c s=(⟨c.txg,c2.sets,(refsL true s.map (c.ddt,c.dirty,true)).1,c.parts,(refsL true s.map (c.ddt,c.dirty,true)).2.1,c.safe,c.logn⟩,(refsL true s.map (c.ddt,c.dirty,true)).2.2):=by
   unfold newB'
   simp only[hf,hc2,hS2,List.take_length,List.drop_length]
  have hl2:c2.sets.length=c.sets.length+1:=by rw[hc2];simp
  have hrows:c2.sets.map CS.row=(c.sets).map CS.row++(S2.row::(([]:List CS)).map CS.row):=by rw[hc2];simp
  have r1:=sRefsC c2 s.map hs8 true (by rw[hc2];simp only;have:=hm.ddt;omega) (by omega)
  have hcd:c2.ddt=c.ddt∧c2.dirty=c.dirty∧c2.txg=c.txg∧c2.parts=c.parts∧c2.safe=c.safe∧c2.logn=c.logn:=by rw[hc2];exact⟨rfl,rfl,rfl,rfl,rfl,rfl⟩
  simp only[coreS,hcd,hl2]at r1
  rw[hN]
  generalize refsL true s.map (c.ddt,c.dirty,true)=Y at *
  obtain⟨yl,yd,yo⟩:=Y
  simp -implicitDefEqProofs [obOf,qas s hs8,kcs,hrow,qbt S2 hS28,cs_map24 S2 hS28,hS2m]
  refine⟨qas S2 hS28,⟨by omega,cs_ones S2⟩,by omega,?_⟩
  have e6:List.take (c.sets.length+1) (List.take c.sets.length (List.map CS.row c.sets)++[S2.row])=c2.sets.map CS.row:=by
   rw[hrows,qap,List.take_of_length_le (by simp)];simp
  rw[e6]
  refine qab [(1000,.whole 41)] (by kernel_rfl) r1 (by simp;exact mtL_cl _ (clL_pts _)) (by simp) (by simp[kcs];exact qaa rfl (qak _)) (by simp) (by simp) ?_
  rintro r L' ⟨rfl,rfl⟩
  refine⟨[],⟨by simp,by simp,by simp,by simp,by simp⟩,?_⟩
  simp only[qae]
  simp -implicitDefEqProofs [hl2]
  rfl
 | cons x q =>
  obtain⟨k1,e0,e1,k3⟩:=dropc hr
  rw[hr]at hd
  have hx8:=h8 x (List.mem_of_getElem? e1)
  have hli:(i:Int)<c.sets.length:=by omega
  have e2:=i64w ((i:Int)+1) (by omega) (by omega)
  have hx0:x.row[0]?=some (.str x.name):=rfl
  have hs0:s.row[0]?=some (.str s.name):=rfl
  cases hb:Op.bytesLess x.name s.name with
  | true =>
   have hp:nmP (x::q) s.name=nmP q s.name+1:=by simp[nmP,List.takeWhile_cons,hb]
   simp -implicitDefEqProofs [obOf,kcs,hli,k1,e0,e1,qas x hx8,qas s hs8,hb]
   exact nx (i+1) [(1000,1000),(2,2),(3,3),(4,4)] ⟨by omega,by rw[k3];omega⟩ (h4:=by simp[obOf,e2,kcs])
  | false =>
   have hp:nmP (x::q) s.name=0:=by simp[nmP,List.takeWhile_cons,hb]
   have hf:nmP c.sets s.name=i:=by omega
   obtain⟨S2,hS2⟩:∃ S2:CS,S2=⟨s.name,s.kind,s.frm,s.map,s.home,true⟩:=⟨_,rfl⟩
   have hrow:=cs_dirt s hs8
   rw[← hS2]at hrow
   have hS28:S2.map.length=8:=by rw[hS2];exact hs8
   have hS2m:S2.map=s.map:=by rw[hS2]
   obtain⟨c2,hc2⟩:∃ c2:CO,c2=⟨c.txg,c.sets.take i++S2::c.sets.drop i,c.ddt,c.parts,c.dirty,c.safe,c.logn⟩:=⟨_,rfl⟩
   have hN:newB' c s=(⟨c.txg,c2.sets,(refsL true s.map (c.ddt,c.dirty,true)).1,c.parts,(refsL true s.map (c.ddt,c.dirty,true)).2.1,c.safe,c.logn⟩,(refsL true s.map (c.ddt,c.dirty,true)).2.2):=by
    unfold newB'
    simp only[hf,hc2,hS2]
   have hl2:c2.sets.length=c.sets.length+1:=by rw[hc2];simp;omega
   have hrows:c2.sets.map CS.row=(c.sets.take i).map CS.row++(S2.row::(c.sets.drop i).map CS.row):=by rw[hc2];simp
   have r1:=sRefsC c2 s.map hs8 true (by rw[hc2];simp only;have:=hm.ddt;omega) (by omega)
   have hcd:c2.ddt=c.ddt∧c2.dirty=c.dirty∧c2.txg=c.txg∧c2.parts=c.parts∧c2.safe=c.safe∧c2.logn=c.logn:=by rw[hc2];exact⟨rfl,rfl,rfl,rfl,rfl,rfl⟩
   simp only[coreS,hcd,hl2]at r1
   rw[hN]
   generalize refsL true s.map (c.ddt,c.dirty,true)=Y at *
   obtain⟨yl,yd,yo⟩:=Y
   simp -implicitDefEqProofs [obOf,kcs,hli,k1,e0,e1,qas x hx8,qas s hs8,hb,hrow,qbt S2 hS28,cs_map24 S2 hS28,hS2m]
   have ho:∀ x∈(c.sets.drop i).map CS.row,∀ y∈x,oneA y=true:=fun x hx y hy=>by
    obtain⟨e,_,rfl⟩:=List.mem_map.1 hx
    exact cs_ones e y hy
   have et:List.take (c.sets.length-i) ((c.sets.drop i).map CS.row)=(c.sets.drop i).map CS.row:=List.take_of_length_le (by simp)
   rw[dr_to,et,tk_to,show i+1+(c.sets.length-i)=c.sets.length+1 by omega]
   refine⟨by omega,⟨by omega,by omega,ho⟩,by omega,qas S2 hS28,⟨by omega,by omega,cs_ones S2⟩,⟨by omega,by omega,ho⟩,?_⟩
   have e6:List.take (i+1) ((c.sets.take i).map CS.row++[S2.row])++(c.sets.drop i).map CS.row=c2.sets.map CS.row:=by
    rw[hrows,List.take_of_length_le (by simp;omega)];simp
   rw[e6]
   refine qab [(1000,.whole 41)] (by kernel_rfl) r1 (by simp;exact mtL_cl _ (clL_pts _)) (by simp) (by simp[kcs];exact qaa rfl (qak _)) (by simp) (by simp) ?_
   rintro r L' ⟨rfl,rfl⟩
   refine⟨[],⟨by simp,by simp,by simp,by simp,by simp⟩,?_⟩
   simp only[qae]
   simp -implicitDefEqProofs [hl2]
   rfl
theorem nmP_at (l:List CS) (n:List UInt8):nmP l n=atP (l.map csB) n:=by
 unfold nmP atP
 induction l with
 | nil=>rfl
 | cons x r ih =>
  simp only[List.map_cons,List.takeWhile_cons]
  have:(csB x).name=x.name:=rfl
  rw[this]
  split
  ·simpa using ih
  ·rfl
theorem cs_map_row (s:CS) (h8:s.map.length=8) (m:List PT):List.take 3 s.row++(m.flatMap PT.row++List.drop 27 s.row)=CS.row ⟨s.name,s.kind,s.frm,m,s.home,s.dirty⟩:=by
 have hl:(s.map.flatMap PT.row).length=24:=by
  rw[List.length_flatMap];exact sum3 h8
 have e:s.row=([.str s.name,.int .i64 s.kind,.str s.frm]++s.map.flatMap PT.row)++(s.home.row++[.bool s.dirty]):=by simp[CS.row]
 have h27:([.str s.name,.int .i64 s.kind,.str s.frm]++s.map.flatMap PT.row:List AV).length=27:=by simp only[List.length_append,hl];rfl
 have e2:List.drop 27 s.row=s.home.row++[.bool s.dirty]:=by rw[e,List.drop_left' h27]
 rw[e2]
 simp[CS.row]
def zSet (name:List UInt8) (kind:Int) (frm:List UInt8) (m:List PT):CS:=⟨name,kind,frm,m,zPT,false⟩
def setsD (c:CO) (op:BO):CO×Bool :=
 if op.kind=1 then newB' c (zSet op.a 1 [] (List.replicate 8 zPT)) else
 match c.sets[nmP c.sets op.a]? with
 | none=>(c,false)
 | some s =>
  if op.kind=2 then
   let x:=refsL false s.map (c.ddt,c.dirty,true)
   (⟨c.txg,c.sets.take (nmP c.sets op.a)++c.sets.drop (nmP c.sets op.a+1),x.1,c.parts,x.2.1,c.safe,c.logn⟩,x.2.2)
  else if op.kind=4 then newB' c (zSet op.b 2 op.a s.map) else
  if op.kind=5 then newB' c (zSet op.b 1 op.a s.map) else
  match c.sets[nmP c.sets op.b]? with
  | none=>(c,false)
  | some t =>
   let x:=refsL true t.map (c.ddt,c.dirty,true)
   let y:=refsL false s.map (x.1,x.2.1,true)
   (⟨c.txg,c.sets.set (nmP c.sets op.a) ⟨s.name,s.kind,s.frm,t.map,s.home,true⟩,y.1,c.parts,y.2.1,c.safe,c.logn⟩,x.2.2 && y.2.2)
theorem sSetsO (c:CO) (hm:CoM c) (h8:∀ s∈c.sets,s.map.length=8) (op:BO) (hk:op.kind=1∨op.kind=2∨op.kind=4∨op.kind=5∨op.kind=6)
  (ha:op.kind≠1→nmP c.sets op.a<c.sets.length) (hb:op.kind=6→nmP c.sets op.b<c.sets.length) :
  ACall prog 72 [coreS c 1000,.agg op.row] [(1000,kcs c.sets)] (fun r L'=>∃ id,(id=1000∨id=22∨id=53∨id=71∨id=84)∧r=.tup [coreS (setsD c op).1 id,.bool (setsD c op).2]∧L'=[(id,kcs (setsD c op).1.sets)]):=by
 obtain⟨R,hR⟩:∃ R,setsD c op=R:=⟨_,rfl⟩
 rw[hR]
 unfold setsD at hR
 have h1:=hm.sets
 refine acx func72 [(3,[zJ 0 [2] [],zJ 2 [] [2],zJ 3 [3] [2],zJ 1 [] [3],zI 4,zI 5,zI 6,zI 7,zI 8,zI 9]),(7,[zI 1,zJ 2 [2] [],zJ 3 [] [2],zJ 4 [1000] [],zJ 6 [] [2,1000],zJ 7 [2] [2,1000],zJ 8 [] [2,1000],zJ 9 [] [2,1000],zJ 10 [1000] [2,1000],zJ 0 [] [2,1000],zJ 5 [] [2,1000],zI 11,zI 12,zI 13]),(13,[zJ 0 [2] [],zJ 2 [] [2],zJ 3 [3] [2],zJ 1 [] [3],zI 4,zI 5,zI 6,zI 7,zI 8,zI 9]),(14,[zJ 0 [2] [],zJ 1 [] [2],zJ 2 [2] [2],zJ 3 [] [2],zJ 4 [1000] [2],zJ 5 [] [2],zJ 6 [1000] [2],⟨7,[1000],[],[11],[]⟩,zI 8,zI 9,zI 10,zJ 11 [] [2,1000],zI 12,zI 13]),(16,[zI 0,zJ 1 [13] [],zJ 2 [] [13],zJ 3 [] [13],zJ 4 [13] [13],zJ 5 [] [13],zJ 6 [1000] [13],zJ 7 [] [13],zJ 8 [1000] [13],zJ 9 [1000] [],zI 10,zI 11])] ntmps72 rfl rfl rfl ?_
 by_cases q1:op.kind=1
 ·rw[if_pos q1]at hR
  have r1:=sNewO c hm h8 (zSet op.a 1 [] (List.replicate 8 zPT)) (by simp[zSet])
  rw[hR]at r1
  simp only[coreS,zSet,CS.row,List.replicate,List.flatMap_cons,List.flatMap_nil,zPT,PT.row,List.cons_append,List.nil_append]at r1
  simp -implicitDefEqProofs [coreS,BO.row,q1]
  refine qab [(1000,.whole 1000)] (by kernel_rfl) r1 (by simp) (by simp) (by simp[kcs];exact qaa rfl (qak _)) (by simp) (by simp) ?_
  rintro r L' ⟨rfl,rfl⟩
  refine⟨[(41,22)],⟨by simp,by simp,by simp,by simp,by simp⟩,?_⟩
  simp only[qae]
  simp -implicitDefEqProofs
 ·rw[if_neg q1]at hR
  obtain⟨s,e1⟩:∃ s,c.sets[nmP c.sets op.a]?=some s:=⟨_,List.getElem?_eq_getElem (ha q1)⟩
  have e0:=(List.getElem?_eq_some_iff.1 e1).2
  have hkl:=ha q1
  have hs8:=h8 s (List.mem_of_getElem? e1)
  rw[e1]at hR
  simp only at hR
  have cn:=sNamesA c (by omega) h8
  have ca:=cv_of (atC (c.sets.map csB) op.a (by simp;omega)) (hca:=by simp[bk])
  have cb:=cv_of (atC (c.sets.map csB) op.b (by simp;omega)) (hca:=by simp[bk])
  rw[← nmP_at]at ca cb
  simp only[CO.row]at cn
  simp only[bk]at ca cb
  simp -implicitDefEqProofs [coreS,BO.row,q1]
  refine qay [] (by kernel_rfl) cn (by simp[vwOk,mtA,kcs,qap,cs_cl]) (by simp) trivial (by simp) (by simp) ?_
  rintro r L' ⟨rfl,rfl⟩
  refine⟨by simp,by simp[bkOb,noL_bs],[(900,27)],⟨by simp,by simp,by simp,by simp,by simp⟩,?_⟩
  simp only[qae]
  simp -implicitDefEqProofs
  have htk:List.take c.sets.length (List.map BS.row (c.sets.map csB))=List.map BS.row (c.sets.map csB):=List.take_of_length_le (by simp)
  have htk2:List.take c.sets.length (List.map (BS.row ∘ csB) c.sets)=List.map (BS.row ∘ csB) c.sets:=List.take_of_length_le (by simp)
  have hmp:=cs_map24 s hs8
  refine ca.view (by simp[vwOk,mtA,bkOb,htk2]) ?_
  have hk':op.kind=2∨op.kind=4∨op.kind=5∨op.kind=6:=hk.resolve_left q1
  rcases hk' with q | q | q | q
  ·rw[if_pos q]at hR
   generalize nmP c.sets op.a=k at *
   have e3:=i64w ((k:Int)+1) (by omega) (by omega)
   obtain⟨c2,hc2⟩:∃ c2:CO,c2=⟨c.txg,c.sets.take k++c.sets.drop (k+1),c.ddt,c.parts,c.dirty,c.safe,c.logn⟩:=⟨_,rfl⟩
   have hl2:c2.sets.length=c.sets.length-1:=by rw[hc2];simp;omega
   have hrows:c2.sets.map CS.row=(c.sets.take k).map CS.row++(c.sets.drop (k+1)).map CS.row:=by rw[hc2];simp
   have r1:=sRefsC c2 s.map hs8 false (by rw[hc2];simp only;have:=hm.ddt;omega) (by omega)
   have hcd:c2.ddt=c.ddt∧c2.dirty=c.dirty∧c2.txg=c.txg∧c2.parts=c.parts∧c2.safe=c.safe∧c2.logn=c.logn:=by rw[hc2];exact⟨rfl,rfl,rfl,rfl,rfl,rfl⟩
   have hs2:c.sets.take k++c.sets.drop (k+1)=c2.sets:=by rw[hc2]
   simp only[coreS,hcd,hl2]at r1
   rw[hs2]at hR
   generalize refsL false s.map (c.ddt,c.dirty,true)=Y at *
   obtain⟨yl,yd,yo⟩:=Y
   simp only at hR
   subst hR
   have ho:∀ (m:List CS),∀ x∈m.map CS.row,∀ y∈x,oneA y=true:=fun m x hx y hy=>by
    obtain⟨e,_,rfl⟩:=List.mem_map.1 hx
    exact cs_ones e y hy
   simp -implicitDefEqProofs [kcs,hkl,e0,e1,qas s hs8,qbt s hs8,q,hmp,e3]
   rw[dr_to,tk_to,show min k c.sets.length=k by omega,show k+(c.sets.length-(k+1))=c.sets.length-1 by omega]
   refine⟨cs_ones s,by omega,⟨by omega,by omega⟩,⟨by omega,by omega,ho _⟩,⟨by omega,by omega,ho _⟩,?_⟩
   have e6:List.take k ((c.sets.take k).map CS.row)++(c.sets.drop (k+1)).map CS.row=c2.sets.map CS.row:=by
    rw[hrows,List.take_of_length_le (by simp;omega)]
   try rw[e6]
   refine qab [(1000,.whole 53)] (by kernel_rfl) r1 (by simp;exact mtL_cl _ (clL_pts _)) (by simp) (by simp[kcs];exact qaa rfl (qak _)) (by simp) (by simp) ?_
   rintro r L' ⟨rfl,rfl⟩
   refine⟨[],⟨by simp,by simp,by simp,by simp,by simp⟩,?_⟩
   simp only[qae]
   simp -implicitDefEqProofs [hl2]
   rfl
  ·rw[if_neg (by omega),if_pos q]at hR
   have r1:=sNewO c hm h8 (zSet op.b 2 op.a s.map) (by simp[zSet,hs8])
   rw[hR]at r1
   have hzr:(zSet op.b 2 op.a s.map).row=.str op.b::.int .i64 2::.str op.a::(s.map.flatMap PT.row++[.int .i64 0,.int .i64 0,.int .i64 0,.bool false]):=by simp[zSet,CS.row,zPT,PT.row]
   rw[hzr]at r1
   simp only[coreS]at r1
   simp -implicitDefEqProofs [kcs,hkl,e0,e1,qas s hs8,qbt s hs8,q,hmp,sum3 hs8]
   refine⟨cs_ones s,?_⟩
   refine qab [(1000,.whole 1000)] (by kernel_rfl) r1 (by simp;exact mtL_cl _ (clL_app (clL_pts _) (by simp))) (by simp) (by simp[kcs];exact qaa rfl (qak _)) (by simp) (by simp) ?_
   rintro r L' ⟨rfl,rfl⟩
   refine⟨[(41,71)],⟨by simp,by simp,by simp,by simp,by simp⟩,?_⟩
   simp only[qae]
   simp -implicitDefEqProofs
   rfl
  ·rw[if_neg (by omega),if_neg (by omega),if_pos q]at hR
   have r1:=sNewO c hm h8 (zSet op.b 1 op.a s.map) (by simp[zSet,hs8])
   rw[hR]at r1
   have hzr:(zSet op.b 1 op.a s.map).row=.str op.b::.int .i64 1::.str op.a::(s.map.flatMap PT.row++[.int .i64 0,.int .i64 0,.int .i64 0,.bool false]):=by simp[zSet,CS.row,zPT,PT.row]
   rw[hzr]at r1
   simp only[coreS]at r1
   simp -implicitDefEqProofs [kcs,hkl,e0,e1,qas s hs8,qbt s hs8,q,hmp,sum3 hs8]
   refine⟨cs_ones s,?_⟩
   refine qab [(1000,.whole 1000)] (by kernel_rfl) r1 (by simp;exact mtL_cl _ (clL_app (clL_pts _) (by simp))) (by simp) (by simp[kcs];exact qaa rfl (qak _)) (by simp) (by simp) ?_
   rintro r L' ⟨rfl,rfl⟩
   refine⟨[(41,84)],⟨by simp,by simp,by simp,by simp,by simp⟩,?_⟩
   simp only[qae]
   simp -implicitDefEqProofs
   rfl
  ·rw[if_neg (by omega),if_neg (by omega),if_neg (by omega)]at hR
   have q2:=hb q
   obtain⟨t,e2⟩:∃ t,c.sets[nmP c.sets op.b]?=some t:=⟨_,List.getElem?_eq_getElem q2⟩
   have e3:=(List.getElem?_eq_some_iff.1 e2).2
   have ht8:=h8 t (List.mem_of_getElem? e2)
   rw[e2]at hR
   simp only at hR
   have hmq:=cs_map24 t ht8
   have r1:=sRefsC c t.map ht8 true (by have:=hm.ddt;omega) (by omega)
   have hY0:(refsL true t.map (c.ddt,c.dirty,true)).1.length≤c.ddt.length+8:=by
    have:=refsL_len true t.map (c.ddt,c.dirty,true)
    simp only[ht8]at this
    exact this
   generalize refsL true t.map (c.ddt,c.dirty,true)=Y at *
   obtain⟨yl,yd,yo⟩:=Y
   simp only at hR r1 hY0
   obtain⟨c2,hc2⟩:∃ c2:CO,c2=⟨c.txg,c.sets,yl,c.parts,yd,c.safe,c.logn⟩:=⟨_,rfl⟩
   have r2:=sRefsC c2 s.map hs8 false (by rw[hc2];simp only;have:=hm.ddt;omega) (by rw[hc2];simp only;omega)
   have hcd:c2.ddt=yl∧c2.dirty=yd∧c2.txg=c.txg∧c2.parts=c.parts∧c2.safe=c.safe∧c2.logn=c.logn∧c2.sets=c.sets:=by rw[hc2];exact⟨rfl,rfl,rfl,rfl,rfl,rfl,rfl⟩
   simp only[coreS,hcd]at r1 r2
   clear hcd hc2
   generalize refsL false s.map (yl,yd,true)=Z at *
   obtain⟨zl,zd,zo⟩:=Z
   simp only at hR r2
   subst hR
   simp -implicitDefEqProofs [kcs,hkl,e0,e1,qas s hs8,qbt s hs8,q,hmp]
   refine⟨cs_ones s,?_⟩
   refine qay [] (by kernel_rfl) cn (by simp[vwOk,mtA,kcs,qap,cs_cl]) (by simp) trivial (by simp) (by simp) ?_
   rintro r L' ⟨rfl,rfl⟩
   refine⟨by simp,by simp[bkOb,noL_bs],[(900,89)],⟨by simp,by simp,by simp,by simp,by simp⟩,?_⟩
   simp only[qae]
   simp -implicitDefEqProofs
   refine cb.view (by simp[vwOk,mtA,bkOb,htk2]) ?_
   generalize nmP c.sets op.a=k at *
   generalize nmP c.sets op.b=j at *
   simp -implicitDefEqProofs [kcs,hkl,q2,e0,e1,e2,e3,qas s hs8,qas t ht8,qbt s hs8,qbt t ht8,q,hmp,hmq]
   refine qab [(1000,.whole 1000)] (by kernel_rfl) r1 (by simp;exact mtL_cl _ (clL_pts _)) (by simp) (by simp[kcs];exact qaa rfl (qak _)) (by simp) (by simp) ?_
   rintro r L' ⟨rfl,rfl⟩
   refine⟨[],⟨by simp,by simp,by simp,by simp,by simp⟩,?_⟩
   simp only[qae]
   simp -implicitDefEqProofs [hmp,qas s hs8,qbt s hs8]
   refine qab [(1000,.whole 1000)] (by kernel_rfl) r2 (by simp;exact mtL_cl _ (clL_pts _)) (by simp) (by simp[kcs];exact qaa rfl (qak _)) (by simp) (by simp) ?_
   rintro r L' ⟨rfl,rfl⟩
   refine⟨[],⟨by simp,by simp,by simp,by simp,by simp⟩,?_⟩
   simp only[qae]
   simp -implicitDefEqProofs [kcs,hkl,q2,e0,e1,e2,e3,qas s hs8,qas t ht8,qbt s hs8,qbt t ht8,q,hmp,hmq]
   have hsum:=sum3 ht8
   rw[hsum]
   have hrow:=cs_map_row s hs8 t.map
   have hr2:=cs_dirt ⟨s.name,s.kind,s.frm,t.map,s.home,s.dirty⟩ ht8
   simp only[Nat.reduceAdd,hrow,hr2]
   refine⟨trivial,fun _=>⟨trivial,fun _=>?_⟩,fun h=>⟨trivial,fun h2=>?_⟩⟩
   all_goals simp_all
def dnB (c:CO) (op:BO):Int:=(doB (c.sets.map csB) op).2
theorem atB_lt {bs:List BS} {n:List UInt8} (h:atB bs n=true):atP bs n<bs.length:=by
 obtain⟨u,hu,_⟩:=atB_some h
 exact(List.getElem?_eq_some_iff.1 hu).1
theorem dnB_done {c:CO} {op:BO} (h:dnB c op=0):(op.kind=1∨op.kind=2∨op.kind=3∨op.kind=4∨op.kind=5∨op.kind=6)∧(op.kind≠1→nmP c.sets op.a<c.sets.length) ∧
  (op.kind=6→nmP c.sets op.b<c.sets.length)∧(op.kind=3→0≤op.i∧op.i<8∧op.text.length≤24):=by
 unfold dnB doB at h
 rw[nmP_at,nmP_at,← List.length_map (f:=csB)]
 by_cases h1:op.kind=1
 ·exact⟨.inl h1,by omega,by omega,by omega⟩
 rw[if_neg h1]at h
 by_cases h2:op.kind<1∨6<op.kind
 ·rw[if_pos h2]at h;simp at h
 rw[if_neg h2]at h
 cases h3:atB (c.sets.map csB) op.a with
 | false=>rw[if_pos h3]at h;simp at h
 | true =>
  rw[if_neg (by simp[h3])]at h
  have h4:=atB_lt h3
  obtain⟨t,ht,_⟩:=atB_some h3
  rw[ht]at h
  simp only at h
  refine⟨by omega,fun _=>h4,fun h6=>?_,fun h6=>?_⟩
  ·rw[if_neg (by omega),if_neg (by omega),if_pos h6]at h
   unfold backB at h
   rw[ht]at h
   simp only at h
   cases h5:atB (c.sets.map csB) op.b with
   | false=>rw[if_pos h5]at h;simp at h
   | true=>exact atB_lt h5
  ·rw[if_neg (by omega),if_pos h6]at h
   unfold putB at h
   rw[ht]at h
   simp only at h
   split at h
   ·simp at h
   ·omega
def putL (d:DK) (c:CO) (op:BO) (w:DK×CO×Int):DK×CO×Int :=
 if w.2.2≠0 then (d,c,w.2.2) else
 if (logPutB w.1 w.2.1 ⟨op.kind,op.a,[],op.i,op.text⟩).2.2=false then (d,c,7) else
 ((logPutB w.1 w.2.1 ⟨op.kind,op.a,[],op.i,op.text⟩).1,(logPutB w.1 w.2.1 ⟨op.kind,op.a,[],op.i,op.text⟩).2.1,0)
def putZ (d:DK) (c:CO) (op:BO) (z:DK×CO×Int):DK×CO×Int :=
 if z.2.2≠0 then (d,c,z.2.2) else putL d c op (turnB z.1 z.2.1 (nmP c.sets op.a) op.i.toNat op.text)
def callB (d:DK) (c:CO) (op:BO):DK×CO×Int :=
 if dnB c op≠0 then (d,c,dnB c op) else
 if op.kind≠3 then (if (setsD c op).2=false then (d,c,7) else qbu d (setsD c op).1) else
 putZ d c op (if c.logn=8 then qbu d c else (d,c,0))
theorem refsT (more:Bool) (m:List PT) (h8:m.length=8) (l:List DE) (b:Bool) (o:Bool):(refsL more m (l,b,o)).1.length≤l.length+8:=by
 have:=refsL_len more m (l,b,o)
 rw[h8]at this
 exact this
theorem newB_T {c:CO} (h:CoT c) (hm:CoM c) (s:CS) (hs8:s.map.length=8) (hn:s.name.length≤1048576∧s.frm.length≤1048576):CoT (newB' c s).1:=by
 have h1:=hm.sets
 have h2:=hm.ddt
 have h3:=refsT true s.map hs8 c.ddt c.dirty true
 refine⟨?_,by simp only[newB'];omega,h.parts,h.safe,fun x hx=>?_,fun x hx=>?_⟩
 ·have:=nmP_le c.sets s.name
  simp[newB'];omega
 all_goals
  simp only[newB',List.mem_append,List.mem_cons]at hx
  rcases hx with hx | rfl | hx
 ·exact h.m8 x (List.mem_of_mem_take hx)
 ·exact hs8
 ·exact h.m8 x (List.mem_of_mem_drop hx)
 ·exact h.nm x (List.mem_of_mem_take hx)
 ·exact hn
 ·exact h.nm x (List.mem_of_mem_drop hx)
theorem setsD_T {c:CO} (h:CoT c) (hm:CoM c) (op:BO) (ha:op.a.length≤1048576) (hb:op.b.length≤1048576):CoT (setsD c op).1:=by
 have h1:=hm.sets
 have h2:=hm.ddt
 unfold setsD
 split
 ·exact newB_T h hm _ rfl ⟨ha,by simp[zSet]⟩
 split
 ·exact h
 rename_i s hs
 have hs8:=h.m8 s (List.mem_of_getElem? hs)
 have hsn:=h.nm s (List.mem_of_getElem? hs)
 have h3:=refsT false s.map hs8 c.ddt c.dirty true
 split
 ·refine⟨by simp;omega,by simp only;omega,h.parts,h.safe,fun x hx=>?_,fun x hx=>?_⟩
  all_goals
   simp only[List.mem_append]at hx
   rcases hx with hx | hx
  ·exact h.m8 x (List.mem_of_mem_take hx)
  ·exact h.m8 x (List.mem_of_mem_drop hx)
  ·exact h.nm x (List.mem_of_mem_take hx)
  ·exact h.nm x (List.mem_of_mem_drop hx)
 split
 ·exact newB_T h hm _ hs8 ⟨hb,ha⟩
 split
 ·exact newB_T h hm _ hs8 ⟨hb,ha⟩
 split
 ·exact h
 rename_i t ht
 have ht8:=h.m8 t (List.mem_of_getElem? ht)
 have h4:=refsT true t.map ht8 c.ddt c.dirty true
 have h5:=refsT false s.map hs8 (refsL true t.map (c.ddt,c.dirty,true)).1 (refsL true t.map (c.ddt,c.dirty,true)).2.1 true
 refine⟨by simp;omega,by simp only;omega,h.parts,h.safe,fun x hx=>?_,fun x hx=>?_⟩
 all_goals
  simp only at hx
  rcases List.mem_or_eq_of_mem_set hx with hx | rfl
 ·exact h.m8 x hx
 ·exact ht8
 ·exact h.nm x hx
 ·exact hsn
theorem reach_len (c:CO) (root:Int):(reachB c root).length≤1+c.ddt.length+c.sets.length+c.parts.length:=by
 have h1:∀ (bs l:List Int),(addsB l bs).length≤l.length+bs.length:=fun bs=>by
  induction bs with
  | nil=>intro l;simp[addsB]
  | cons a r ih =>
   intro l
   rw[addsB_cons]
   have:=ih (addB l a)
   have h2:(addB l a).length≤l.length+1:=by
    unfold addB
    split
    ·omega
    ·simp;omega
   simp only[List.length_cons];omega
 have h2:(addB [] root).length≤1:=by
  unfold addB
  split <;> simp
 unfold reachB
 have a1:=h1 (c.ddt.map DE.ea) (addB [] root)
 have a2:=h1 (c.sets.map fun s=>s.home.pa) (addsB (addB [] root) (c.ddt.map DE.ea))
 have a3:=h1 (c.parts.map PT.pa) (addsB (addsB (addB [] root) (c.ddt.map DE.ea)) (c.sets.map fun s=>s.home.pa))
 simp only[List.length_map]at a1 a2 a3
 omega
theorem commitB_ok {d:DK} {c:CO} (h:CoT c) (hz:(qbu d c).2.2=0):dOkB d=true∧qaj c=true∧dOkB (qbu d c).1=true∧(qbu d c).1.s0.length=d.s0.length∧CoT (qbu d c).2.1∧CoM (qbu d c).2.1∧(qbu d c).2.1.txg=c.txg+1∧c.txg<1000000 ∧
  (qbu d c).2.1.logn=0∧(qbu d c).2.1.sets.length=c.sets.length:=by
 unfold qbu at hz ⊢
 by_cases h1:dOkB d=false∨qaj c=false∨d.s0.length≤13
 ·rw[if_pos h1]at hz;simp at hz
 rw[if_neg h1]at hz ⊢
 by_cases h2:mayDoB d c=false
 ·rw[if_pos h2]at hz;simp at hz
 rw[if_neg h2]at hz ⊢
 have hd:dOkB d=true:=by cases hx:dOkB d <;> simp_all
 have hc:qaj c=true:=by cases hx:qaj c <;> simp_all
 obtain⟨hm,k⟩:=qcc hc
 have ht:c.txg<1000000:=by
  cases hx:mayDoB d c with
  | false=>exact absurd hx h2
  | true =>
   simp only[mayDoB,Bool.and_eq_true,decide_eq_true_eq]at hx
   exact hx.1
 have b1:=blocks_ok hd c
 obtain⟨b2,b3⟩:=blocks_T hd h hm
 by_cases h3:(doneB d c).2.2≠0
 ·rw[if_pos h3]at hz;exact absurd hz h3
 rw[if_neg h3]at hz ⊢
 have f1:=flush_ok b1.1
 have f2:=bWrite_ok f1.1 (1+(c.txg+1) % 4) (uberText (c.txg+1) (qai d c).2.2)
 have f3:=flush_ok f2.1
 have hsl:(qai d c).2.1.sets.length=c.sets.length:=setsB_len _ _ _
 have hr:=reach_len (qai d c).2.1 (qai d c).2.2.pa
 have e1:=b3.sets
 have e2:=b3.ddt
 have e3:=b3.parts
 unfold doneB at hz ⊢
 by_cases q1:(qai d c).1.ok=false
 ·rw[if_pos q1]at hz;simp at hz
 rw[if_neg q1]at hz ⊢
 by_cases q2:(ringB (qbr (qai d c).1.d) (c.txg+1) (qai d c).2.2).2=false
 ·rw[if_pos q2]at hz;simp at hz
 rw[if_neg q2]
 unfold ringB
 exact⟨hd,hc,f3.1,by rw[f3.2.1,f2.2,f1.2.1,b1.2],⟨b2.sets,b2.ddt,b2.parts,by simp only;omega,b2.m8,b2.nm⟩,⟨b3.sets,b3.ddt,b3.parts⟩,rfl,ht,rfl,hsl⟩
theorem turnB_ok {d:DK} (hd:dOkB d=true) (c:CO) (k i:Nat) (text:List UInt8):dOkB (turnB d c k i text).1=true∧(turnB d c k i text).1.s0.length=d.s0.length∧(turnB d c k i text).2.1.logn=c.logn:=by
 have hb:dOkB (blockB d c text).1=true∧(blockB d c text).1.s0.length=d.s0.length:=by
  unfold blockB
  split
  ·exact⟨hd,rfl⟩
  split
  ·exact⟨hd,rfl⟩
  split
  ·exact⟨hd,rfl⟩
  ·exact bWrite_ok hd _ _
 have hg:∀ (x:DK) (s:CS) (old now:PT),dOkB x=true∧x.s0.length=d.s0.length→dOkB (turnG d x c k i s old now).1=true∧(turnG d x c k i s old now).1.s0.length=d.s0.length∧(turnG d x c k i s old now).2.1.logn=c.logn:=fun x s old now hx=>by
  unfold turnG
  simp only
  split
  ·exact⟨hd,rfl,rfl⟩
  ·exact⟨hx.1,hx.2,rfl⟩
 unfold turnB
 split
 ·exact⟨hd,rfl,rfl⟩
 simp only
 split
 ·exact hg _ _ _ _ ⟨hd,rfl⟩
 split
 ·exact⟨hd,rfl,rfl⟩
 split
 ·exact⟨hd,rfl,rfl⟩
 split
 ·exact⟨hb.1,hb.2,rfl⟩
 ·exact hg _ _ _ _ hb
structure PO where
 d:DK
 c:CO
 up:Bool
deriving DecidableEq,Inhabited
def PO.row (p:PO):List AV:=p.d.row++(p.c.row++[.bool p.up])
def poolOkB (p:PO):Bool:=dOkB p.d && decide (13<p.d.s0.length) && qaj p.c
def caOb (d:DK) (c:CO) (op:BO):List (Nat×Ob):=[(3,⟨3,[d.row]⟩),(4,⟨7,[c.row]⟩),(5,⟨5,[op.row]⟩),(6,⟨3,[[.nils,.nils,.nils]]⟩),(7,⟨7,[[.int .i64 0,.nils,.nils,.nils,.bool false,.nils,.int .i64 0]]⟩)]
def caS (d:DK) (c:CO) (op:BO) (n:Int):S :=
 ⟨mkT [(3,.ptr 3 0 0),(4,.ptr 4 0 0),(5,.ptr 5 0 0),(6,.ptr 6 0 0),(7,.ptr 7 0 0),(8,.int .i64 0),(10,.int .i64 n)],hpOf (caOb d c op),Us.of [3,4,5,6,7]⟩
def caS2 (d:DK) (c:CO) (op:BO) (x:CO) (xo:Bool):S :=
 ⟨mkT [(3,.ptr 3 0 0),(4,.ptr 4 0 0),(5,.ptr 5 0 0),(6,.ptr 6 0 0),(7,.ptr 7 0 0),(8,.int .i64 0),(11,.ptr 11 0 0),(12,.bool xo)],hpOf (caOb d c op++[(11,⟨7,[x.row]⟩)]),Us.of [3,4,5,6,7,11]⟩
def caS3 (d:DK) (c:CO) (op:BO) (z:DK×CO×Int):S :=
 ⟨mkT [(3,.ptr 3 0 0),(4,.ptr 4 0 0),(5,.ptr 5 0 0),(6,.ptr 6 0 0),(7,.ptr 7 0 0),(8,.int .i64 0),(13,.ptr 13 0 0),(14,.ptr 14 0 0)],hpOf (caOb d c op++[(13,⟨3,[z.1.row]⟩),(14,⟨7,[z.2.1.row]⟩)]),Us.of [3,4,5,6,7,13,14]⟩
theorem sCallC (d:DK) (hd:dOkB d=true) (c:CO) (h:CoT c) (hc:qaj c=true) (op:BO) (ha:op.a.length≤1048576) (hb:op.b.length≤1048576) (ht:op.text.length≤1048576) :
  CV prog 26 [.agg d.row,.agg c.row,.agg op.row] (.tup [.agg (callB d c op).1.row,.agg (callB d c op).2.1.row,.int .i64 (callB d c op).2.2]):=by
 obtain⟨R,hR⟩:∃ R,callB d c op=R:=⟨_,rfl⟩
 rw[hR]
 unfold callB at hR
 obtain⟨hm,k1,k2,k3,k4,k5,k6,k7⟩:=qcc hc
 have h1:=h.sets
 have cn:=sNamesA c (by omega) h.m8
 have cd:=doC (c.sets.map csB) op (by simp;omega) (fun b hb=>by
  obtain⟨s,hs,rfl⟩:=List.mem_map.1 hb
  simp[csB]) (fun b hb=>by
  obtain⟨s,hs,rfl⟩:=List.mem_map.1 hb
  have:=(h.nm s hs).1
  simp[csB];omega) (by omega)
 have hdn:(doB (c.sets.map csB) op).2=dnB c op:=rfl
 have htk:List.take c.sets.length (List.map BS.row (c.sets.map csB))=List.map BS.row (c.sets.map csB):=List.take_of_length_le (by simp)
 simp only[CO.row]at cn
 refine⟨by kernel_rfl,by simp[DK.row,co_cl,BO.row],by simp[DK.row,co_cl],acv func26 [(1,[zJ 0 [4] [],zJ 2 [5] [4],⟨1,[],[5],[7],[]⟩,⟨3,[25],[],[7],[]⟩,zI 4,zI 5,zI 6,zJ 7 [] [4,5],zI 8,zI 9]),(3,[zJ 0 [3] [],zJ 1 [4] [3],zJ 2 [] [3,4],zJ 3 [] [4],zI 4,zI 5]),(5,[zJ 0 [4] [],zJ 2 [5] [4],⟨1,[],[5],[7],[]⟩,⟨3,[40],[],[7],[]⟩,zI 4,zI 5,zI 6,zJ 7 [] [4,5],zI 8,zI 9]),(7,[zJ 0 [3] [],zJ 1 [4] [3],zJ 2 [] [4],zI 3,zI 4]),(14,[zJ 0 [3] [],zJ 1 [4] [3],zJ 2 [] [3,4],zJ 3 [] [4],zI 4,zI 5]),(15,[zJ 0 [4] [],zJ 2 [] [4],zJ 3 [5] [4],zJ 1 [] [5],zJ 4 [74] [],zI 5,zI 6,zI 7,zI 8,zI 9]),(19,[zJ 0 [3] [],zJ 1 [4] [3],zJ 2 [] [3,4],zJ 3 [] [4],zI 4,zI 5]),(22,[zJ 0 [3] [],zJ 1 [4] [3],zJ 2 [] [4],zI 3,zI 4]),(23,[zJ 0 [20] [],zJ 1 [21] [20],zJ 2 [] [21],zI 3,zI 4])] ntmps26 rfl rfl rfl ?_⟩
 refine va_seq (qax _ ?_)
 simp -implicitDefEqProofs [DK.row,CO.row,BO.row]
 refine va_cutW (X:=Unit) (fun _=>caS d c op (dnB c op)) (fun _=>True) ?_ ?_
 ·simp -implicitDefEqProofs [DK.row,CO.row,BO.row]
  refine qab [] (by kernel_rfl) cn (by simp[DE.row,PT.row,qad,cs_cl]) (by simp) trivial (by simp) (by simp) ?_
  rintro r L' ⟨rfl,rfl⟩
  refine⟨[(900,25)],⟨by simp,by simp,by simp,by simp,by simp⟩,?_⟩
  simp only[qae]
  simp -implicitDefEqProofs [BO.row]
  generalize hX:doB (c.sets.map csB) op=X at *
  obtain⟨xb,xc⟩:=X
  simp only at hdn
  subst hdn
  refine qab [(1000,.whole 25)] (by kernel_rfl) cd (by simp[BO.row,bk]) (by simp) (by simp[bkOb];exact qaa rfl (by simp)) (by simp) (by simp) ?_
  rintro r L' ⟨id,hid,rfl,rfl⟩
  simp only[List.mem_cons,List.not_mem_nil,or_false]at hid
  rcases hid with rfl | rfl
  ·refine⟨[],⟨by simp,by simp,by simp,by simp,by simp⟩,?_⟩
   simp only[qae]
   simp -implicitDefEqProofs [BO.row]
   exact cutW_of () trivial (sw_can [3,4,5,6,7,8,10] [(3,3),(4,4),(5,5),(6,6),(7,7)] (by simp[qag]) (by simp[canon,obOf,caS,caOb,DK.row,CO.row,BO.row]))
  ·refine⟨[(900,27)],⟨by simp,by simp,by simp,by simp,by simp⟩,?_⟩
   simp only[qae]
   simp -implicitDefEqProofs [BO.row]
   exact cutW_of () trivial (sw_can [3,4,5,6,7,8,10] [(3,3),(4,4),(5,5),(6,6),(7,7)] (by simp[qag]) (by simp[canon,obOf,caS,caOb,DK.row,CO.row,BO.row]))
 rintro _ -
 by_cases q0:dnB c op≠0
 ·rw[if_pos q0]at hR
  subst hR
  refine qax _ ?_
  simp -implicitDefEqProofs [caS,caOb,q0,DK.row,CO.row]
 rw[if_neg q0]at hR
 have q1:dnB c op=0:=by omega
 rw[q1]
 obtain⟨g1,g2,g3,g4⟩:=dnB_done q1
 refine va_seq (qax _ ?_)
 simp -implicitDefEqProofs [caS,caOb]
 by_cases q2:op.kind≠3
 ·rw[if_pos q2]at hR
  have hn:=sSetsO c hm h.m8 op (by omega) g2 g3
  have hXT:=setsD_T h hm op ha hb
  generalize setsD c op=X at *
  obtain⟨x,xo⟩:=X
  simp only[coreS]at hn
  simp only at hXT hR
  have cs:=sKCopyS c h
  simp only[coreS]at cs
  refine va_seq (va_seq (qax _ ?_))
  simp -implicitDefEqProofs [BO.row,q2]
  refine va_cond (b:=true) (by simpa using q2) (fun _=>?_) (by simp)
  refine va_cutW (X:=Unit) (fun _=>caS2 d c op x xo) (fun _=>True) ?_ ?_
  ·simp -implicitDefEqProofs [DK.row,CO.row,BO.row]
   refine qab [] (by kernel_rfl) cs (by simp[co_cl,CO.row]) (by simp) trivial (by simp) (by simp) ?_
   rintro r L' ⟨rfl,rfl⟩
   refine⟨[(8,40)],⟨by simp,by simp,by simp,by simp,by simp⟩,?_⟩
   simp only[qae]
   simp -implicitDefEqProofs [BO.row]
   refine qab [(1000,.whole 40)] (by kernel_rfl) hn (by simp[BO.row];try exact mtL_cl _ (by simp)) (by simp) (by simp[kcs];exact qaa rfl (qak _)) (by simp) (by simp) ?_
   rintro r L' ⟨id,hid,rfl,rfl⟩
   rcases hid with rfl | rfl | rfl | rfl | rfl
   ·refine⟨[],⟨by simp,by simp,by simp,by simp,by simp⟩,?_⟩
    simp only[qae]
    simp -implicitDefEqProofs [BO.row]
    exact cutW_of () trivial (sw_fr 40 (o:=kcs x.sets) (by simp) (by simpa [clR]using qak _) (by simp) (by simp) [3,4,5,6,7,8,11,12] [(3,3),(4,4),(5,5),(6,6),(7,7),(11,11)] (by simp[qag]) (by simp[-frzO,canon,obOf,caS2,caOb];simp[frzO,DK.row,CO.row,BO.row,kcs,qap]))
   ·refine⟨[(22,42)],⟨by simp,by simp,by simp,by simp,by simp⟩,?_⟩
    simp only[qae]
    simp -implicitDefEqProofs [BO.row]
    exact cutW_of () trivial (sw_fr 42 (o:=kcs x.sets) (by simp) (by simpa [clR]using qak _) (by simp) (by simp) [3,4,5,6,7,8,11,12] [(3,3),(4,4),(5,5),(6,6),(7,7),(11,11)] (by simp[qag]) (by simp[-frzO,canon,obOf,caS2,caOb];simp[frzO,DK.row,CO.row,BO.row,kcs,qap]))
   ·refine⟨[(53,42)],⟨by simp,by simp,by simp,by simp,by simp⟩,?_⟩
    simp only[qae]
    simp -implicitDefEqProofs [BO.row]
    exact cutW_of () trivial (sw_fr 42 (o:=kcs x.sets) (by simp) (by simpa [clR]using qak _) (by simp) (by simp) [3,4,5,6,7,8,11,12] [(3,3),(4,4),(5,5),(6,6),(7,7),(11,11)] (by simp[qag]) (by simp[-frzO,canon,obOf,caS2,caOb];simp[frzO,DK.row,CO.row,BO.row,kcs,qap]))
   ·refine⟨[(71,42)],⟨by simp,by simp,by simp,by simp,by simp⟩,?_⟩
    simp only[qae]
    simp -implicitDefEqProofs [BO.row]
    exact cutW_of () trivial (sw_fr 42 (o:=kcs x.sets) (by simp) (by simpa [clR]using qak _) (by simp) (by simp) [3,4,5,6,7,8,11,12] [(3,3),(4,4),(5,5),(6,6),(7,7),(11,11)] (by simp[qag]) (by simp[-frzO,canon,obOf,caS2,caOb];simp[frzO,DK.row,CO.row,BO.row,kcs,qap]))
   ·refine⟨[(84,42)],⟨by simp,by simp,by simp,by simp,by simp⟩,?_⟩
    simp only[qae]
    simp -implicitDefEqProofs [BO.row]
    exact cutW_of () trivial (sw_fr 42 (o:=kcs x.sets) (by simp) (by simpa [clR]using qak _) (by simp) (by simp) [3,4,5,6,7,8,11,12] [(3,3),(4,4),(5,5),(6,6),(7,7),(11,11)] (by simp[qag]) (by simp[-frzO,canon,obOf,caS2,caOb];simp[frzO,DK.row,CO.row,BO.row,kcs,qap]))
  rintro _ -
  refine qax _ ?_
  cases xo with
  | false =>
   rw[if_pos rfl]at hR
   subst hR
   simp -implicitDefEqProofs [caS2,caOb,DK.row,CO.row]
  | true =>
   rw[if_neg (by simp)]at hR
   subst hR
   have cc:=sCommitC d (dOk_T hd) x hXT
   simp only[DK.row,CO.row]at cc
   simp -implicitDefEqProofs [caS2,caOb,DK.row,CO.row]
   refine cc.call ?_
   simp -implicitDefEqProofs
 ·rw[if_neg q2]at hR
  have q3:op.kind=3:=by omega
  obtain⟨g5,g6,g7⟩:=g4 q3
  have g8:=g2 (by omega)
  have ca:=cv_of (atC (c.sets.map csB) op.a (by simp;omega)) (hca:=by simp[bk])
  rw[← nmP_at]at ca
  simp only[bk]at ca
  refine va_seq (qax _ ?_)
  simp -implicitDefEqProofs [BO.row,q3]
  have key:∀ (z:DK×CO×Int),(z=if c.logn=8 then qbu d c else (d,c,0))→z.2.2=0→dOkB z.1=true∧CoT z.2.1∧CoM z.2.1∧(0≤z.2.1.txg∧z.2.1.txg≤1000000)∧(0≤z.2.1.logn∧z.2.1.logn≤8)∧z.2.1.sets.length=c.sets.length:=by
   intro z hz hz0
   by_cases q4:c.logn=8
   ·rw[if_pos q4]at hz
    subst hz
    obtain⟨_,_,a1,a2,a3,a4,a5,a6,a7,a8⟩:=commitB_ok h hz0
    exact⟨a1,a3,a4,by omega,by omega,a8⟩
   ·rw[if_neg q4]at hz
    subst hz
    exact⟨hd,h,hm,⟨k4,k5⟩,⟨k6,k7⟩,rfl⟩
  obtain⟨z,hz⟩:∃ z,z=(if c.logn=8 then qbu d c else (d,c,0)):=⟨_,rfl⟩
  specialize key z hz
  refine va_seq (qax _ ?_)
  simp -implicitDefEqProofs [DK.row,CO.row,BO.row]
  refine va_seq (qax _ ?_)
  simp -implicitDefEqProofs [DK.row,CO.row,BO.row]
  rw[← hz]at hR
  by_cases q5:z.2.2≠0
  ·rw[putZ,if_pos q5]at hR
   by_cases q4:c.logn=8
   ·rw[if_pos q4]at hz
    have cc:=sCommitC d (dOk_T hd) c h
    rw[← hz]at cc
    subst hR
    simp only[DK.row,CO.row,q4]at cc
    refine qax _ ?_
    simp -implicitDefEqProofs [DK.row,CO.row,BO.row,q4]
    refine cc.call ?_
    simp -implicitDefEqProofs [q5]
   ·rw[if_neg q4]at hz
    exact absurd (by rw[hz]) q5
  ·rw[putZ,if_neg q5]at hR
   obtain⟨d1,d2,d3,d4,d5,d6⟩:=key (by omega)
   refine va_cutW (X:=Unit) (fun _=>caS3 d c op z) (fun _=>True) ?_ ?_
   ·by_cases q4:c.logn=8
    ·rw[if_pos q4]at hz
     have cc:=sCommitC d (dOk_T hd) c h
     rw[← hz]at cc
     simp only[DK.row,CO.row,q4]at cc
     simp -implicitDefEqProofs [DK.row,CO.row,BO.row,q4]
     refine cc.call ?_
     simp -implicitDefEqProofs [show z.2.2=0 by omega]
     exact cutW_of () trivial (sw_can [3,4,5,6,7,8,13,14] [(3,3),(4,4),(5,5),(6,6),(7,7),(13,13),(14,14)] (by simp[qag]) (by simp[canon,obOf,caS3,caOb,DK.row,CO.row,BO.row,q3,q4]))
    ·rw[if_neg q4]at hz
     subst hz
     simp -implicitDefEqProofs [DK.row,CO.row,BO.row,q4]
     exact cutW_of () trivial (sw_can [3,4,5,6,7,8,13,14] [(3,3),(4,4),(5,5),(6,6),(7,7),(13,13),(14,14)] (by simp[qag]) (by simp[canon,obOf,caS3,caOb,DK.row,CO.row,BO.row,q3]))
   rintro _ -
   obtain⟨zd,zc,zn⟩:=z
   simp only at hR d1 d2 d3 d4 d5 d6
   clear key hz q5
   obtain⟨w,hw⟩:∃ w,turnB zd zc (nmP c.sets op.a) op.i.toNat op.text=w:=⟨_,rfl⟩
   have tw:=turnB_ok d1 zc (nmP c.sets op.a) op.i.toNat op.text
   have ct:=sTurnC zd (dOk_T d1) zc d2 d3 (nmP c.sets op.a) op.i.toNat (by omega) (by omega) op.text ht d4
   rw[show((op.i.toNat:Nat):Int)=op.i by omega]at ct
   rw[hw]at hR ct tw
   obtain⟨wd,wc,wn⟩:=w
   simp only at hR tw
   have cl:=sLogPutC wd (dOk_T tw.1) wc ⟨op.kind,op.a,[],op.i,op.text⟩ (by omega) ha ht
   unfold putL at hR
   simp only at hR
   generalize logPutB wd wc ⟨op.kind,op.a,[],op.i,op.text⟩=v at *
   obtain⟨vd,vc,vo⟩:=v
   simp only[DK.row,CO.row,BO.row,q3]at hR ct cl
   refine qax _ ?_
   simp -implicitDefEqProofs [caS3,caOb,DK.row,CO.row,BO.row]
   refine qab [] (by kernel_rfl) cn (by simp[DE.row,PT.row,qad,cs_cl]) (by simp) trivial (by simp) (by simp) ?_
   rintro r L' ⟨rfl,rfl⟩
   refine⟨[(900,74)],⟨by simp,by simp,by simp,by simp,by simp⟩,?_⟩
   simp only[qae]
   simp -implicitDefEqProofs [BO.row]
   have htk2:List.take c.sets.length (List.map (BS.row ∘ csB) c.sets)=List.map (BS.row ∘ csB) c.sets:=List.take_of_length_le (by simp)
   refine ca.view (by simp[vwOk,mtA,bkOb,htk2]) ?_
   simp -implicitDefEqProofs [BO.row]
   refine ct.call ?_
   simp -implicitDefEqProofs [BO.row]
   by_cases q6:wn≠0
   ·rw[if_pos q6]at hR
    subst hR
    simp -implicitDefEqProofs [q6]
   ·rw[if_neg q6]at hR
    simp -implicitDefEqProofs [show wn=0 by omega,q3]
    refine cl.call ?_
    cases vo with
    | false =>
     rw[if_pos rfl]at hR
     subst hR
     simp -implicitDefEqProofs
    | true =>
     rw[if_neg (by simp)]at hR
     subst hR
     simp -implicitDefEqProofs
theorem sPoolOkC (p:PO) (hd:DkT p.d) (hc:CoT p.c):CV prog 24 [.agg p.row] (.bool (poolOkB p)):=by
 have c1:=sDiskOkC p.d hd
 have c2:=sCoreOk p.c hc
 have hl:=hd.l0
 unfold poolOkB
 simp only[DK.row,CO.row]at c1 c2
 refine cvx func24 [] ntmps24 rfl rfl rfl ?_ (hca:=by simp[PO.row,DK.row,co_cl])
 simp -implicitDefEqProofs [PO.row,DK.row,CO.row]
 refine c1.call ?_
 cases dOkB p.d with
 | false=>simp -implicitDefEqProofs
 | true =>
  simp -implicitDefEqProofs
  by_cases h:13<p.d.s0.length
  ·simp -implicitDefEqProofs [h,show(13:Int)<p.d.s0.length by omega,show ¬ (p.d.s0.length:Int)≤13 by omega]
   refine c2.call ?_
   simp -implicitDefEqProofs
  ·simp -implicitDefEqProofs [h,show ¬ (13:Int)<p.d.s0.length by omega]
def poolB (p:PO) (op:BO):PO×Int :=
 if poolOkB p=false then (⟨zDK,zK,false⟩,5) else if p.up=false then (p,9) else
 if (callB p.d p.c op).2.2≠0 then (p,(callB p.d p.c op).2.2) else (⟨(callB p.d p.c op).1,(callB p.d p.c op).2.1,true⟩,0)
theorem impA_zp:impA (.agg [.nils,.nils,.nils,.int .i64 0,.nils,.nils,.nils,.bool false,.nils,.int .i64 0,.bool false]) (.agg (PO.row ⟨zDK,zK,false⟩)) :=
 impA_ag (.cons (qbn 1) (.cons (qbn 1) (.cons (qbn 3) (.cons (qba _) (.cons (qbn 31) (.cons (qbn 3) (.cons (qbn 3) (.cons (qba _) (.cons (qbn 1) (.cons (qba _) (.cons (qba _) .nil)))))))))))
def tornB (old now:List UInt8):List UInt8:=now.take (now.length / 2)++old.drop (now.length / 2)
theorem half_eq (n:Nat):(n:Int).tdiv 2=((n / 2:Nat):Int):=by
 rw[Int.tdiv_eq_ediv_of_nonneg (by omega)];omega
theorem sTornC (old now:List UInt8) (ho:old.length≤1048576) (hn:now.length≤1048576):CV prog 242 [.str old,.str now] (.str (tornB old now)):=by
 have t2:=half_eq now.length
 have e1:=i64w (((now.length / 2:Nat):Int)) (by omega) (by omega)
 have hh:now.length / 2≤now.length:=by omega
 obtain⟨k,hk⟩:∃ k,now.length / 2=k:=⟨_,rfl⟩
 rw[hk]at t2 e1 hh
 refine cvx func242 [] ntmps242 rfl rfl rfl ?_
 unfold tornB
 rw[hk]
 have g:List.take (old.length-k) (old.drop k)=old.drop k:=List.take_of_length_le (by simp)
 by_cases h:k<old.length
 ·simp -implicitDefEqProofs [t2,e1,h,hh,g]
  omega
 ·simp -implicitDefEqProofs [t2,e1,h,hh,List.drop_eq_nil_of_le (Nat.not_lt.1 h)]
  all_goals first | omega | grind
abbrev L2:=List (List UInt8)×List (List UInt8)
def oldP (p:L2) (w:LT):List UInt8:=if w.ls=0 then p.1.getD w.la.toNat [] else p.2.getD w.la.toNat []
def fallP (p:L2) (w:LT) (f:Int):L2:=if f=1 then putP p w else if f=2 then putP p ⟨w.ls,w.la,tornB (oldP p w) w.lx⟩ else p
def fallZ:List LT→List Int→L2→L2
 | w::ws,f::fs,p=>fallZ ws fs (fallP p w f)
 | [],_,p=>p
 | _::_,[],p=>p
def dFallB (d:DK) (fate:List Int):DK:=if dOkB d=true then ⟨(fallZ d.late fate (d.s0,d.s1)).1,(fallZ d.late fate (d.s0,d.s1)).2,[]⟩ else zDK
theorem fallP_len (p:L2) (w:LT) (f:Int):(fallP p w f).1.length=p.1.length∧(fallP p w f).2.length=p.2.length:=by
 unfold fallP
 split
 ·exact putP_len _ _
 ·split
  ·exact putP_len _ _
  ·exact⟨rfl,rfl⟩
theorem fallZ_end {ws:List LT} {fs:List Int} {p:L2} (h:ws=[]∨fs=[]):fallZ ws fs p=p:=by
 rcases h with rfl | rfl
 ·rw[fallZ]
 ·cases ws <;> rw[fallZ]
theorem tornB_le {a b:List UInt8} {n:Nat} (ha:a.length≤n) (hb:b.length≤n):(tornB a b).length≤n:=by
 simp only[tornB,List.length_append,List.length_take,List.length_drop]
 omega
theorem getD_all {l:List (List UInt8)} {n:Nat} (h:∀ t∈l,t.length≤n) (i:Nat):(l.getD i []).length≤n:=by
 rw[List.getD_eq_getElem?_getD]
 cases hg:l[i]? with
 | none=>simp
 | some t=>exact h t (List.mem_of_getElem? hg)
theorem putP_T {p:L2} {w:LT} {n:Nat} (h0:∀ t∈p.1,t.length≤n) (h1:∀ t∈p.2,t.length≤n) (hw:w.lx.length≤n):(∀ t∈(putP p w).1,t.length≤n)∧∀ t∈(putP p w).2,t.length≤n:=by
 unfold putP
 split
 ·exact⟨fun t ht=>by
   rcases List.mem_or_eq_of_mem_set ht with ht | rfl
   ·exact h0 t ht
   ·exact hw,h1⟩
 ·exact⟨h0,fun t ht=>by
   rcases List.mem_or_eq_of_mem_set ht with ht | rfl
   ·exact h1 t ht
   ·exact hw⟩
theorem fallP_T {p:L2} {w:LT} {f:Int} {n:Nat} (h0:∀ t∈p.1,t.length≤n) (h1:∀ t∈p.2,t.length≤n) (hw:w.lx.length≤n):(∀ t∈(fallP p w f).1,t.length≤n)∧∀ t∈(fallP p w f).2,t.length≤n:=by
 unfold fallP
 split
 ·exact putP_T h0 h1 hw
 ·split
  ·refine putP_T h0 h1 (tornB_le ?_ hw)
   unfold oldP
   split
   ·exact getD_all h0 _
   ·exact getD_all h1 _
  ·exact⟨h0,h1⟩
theorem sFallC (d:DK) (h:DkT d) (fate:List Int) (hf:fate.length≤1048576):CV prog 131 [.agg d.row,.lst 1 (fate.map qad)] (.agg (dFallB d fate).row):=by
 obtain⟨R,hR⟩:∃ R,dFallB d fate=R:=⟨_,rfl⟩
 rw[hR]
 unfold dFallB at hR
 have h0:=h.l0
 have h1:=h.l1
 have h2:=h.l2
 have c1:=sDiskOkC d h
 have co:=sCopyO d h
 simp only[DK.row]at c1 co
 have key:ACall prog 131 [.agg d.row,.lst 1 (fate.map qad)] [] (fun r L'=>(R=zDK∧r=.agg [.nils,.nils,.nils]∧L'=[]) ∨
   (r=.agg [.sl 801 0 R.s0.length,.sl 802 0 R.s1.length,.nils]∧R.late=[]∧L'=[(801,strOb R.s0),(802,strOb R.s1)])):=by
  refine acx func131 [(10,[zI 0,zJ 1 [7] [],zJ 2 [] [7],zI 3,zJ 4 [5] [],zJ 5 [] [7,5],zJ 6 [7] [7,5],zJ 7 [] [7,5],zJ 8 [7] [7,5],zJ 9 [801,802] [],zI 10]),(12,[zI 0,zJ 1 [7] [],zJ 2 [] [7],zI 3,zJ 4 [5] [],zJ 5 [] [7,5],zJ 6 [7] [7,5],zJ 7 [] [7,5],zJ 8 [7] [7,5],zJ 9 [] [7,5],zJ 10 [] [7,5],zJ 11 [5] [7,5],zJ 12 [] [7,5],zJ 13 [7] [7,5],zJ 14 [801,802] [7,5],zJ 15 [801,802] [7,5],zJ 16 [] [7,5,801,802],zJ 17 [7] [7,5,801,802],zJ 18 [] [7,5],zJ 19 [801,802] [],zI 20])] ntmps131 rfl rfl rfl ?_
  simp -implicitDefEqProofs [DK.row]
  refine c1.call ?_
  cases hok:dOkB d with
  | false =>
   rw[if_neg (by simp[hok])]at hR
   simp -implicitDefEqProofs [← hR]
  | true =>
   rw[if_pos hok]at hR
   obtain⟨g1,g2,g3,g4,g5,g6,g7⟩:=dOk_len hok
   simp -implicitDefEqProofs
   refine qab [] (by kernel_rfl) co (by simp) (by simp) trivial (by simp) (by simp) ?_
   rintro r L' ⟨rfl,rfl⟩
   refine⟨[(7,801),(12,802),(17,803)],⟨by simp,by simp,by simp,by simp,by simp⟩,?_⟩
   simp only[qae]
   simp -implicitDefEqProofs
   refine ev_lp (X:=Nat×L2) [1,2,4,5,6] [(2,2),(4,4),(5,5),(801,801),(802,802),(803,803)] (fun x=>[(6,.int .i64 x.1)]) (fun x=>[(801,strOb x.2.1),(802,strOb x.2.2)]) (fun x=>d.late.length-x.1)
    (fun x=>x.1≤d.late.length∧x.1≤fate.length∧x.2.1.length=d.s0.length∧x.2.2.length=d.s0.length∧(∀ t∈x.2.1,t.length≤1048576)∧(∀ t∈x.2.2,t.length≤1048576)∧(⟨(fallZ (d.late.drop x.1) (fate.drop x.1) x.2).1,(fallZ (d.late.drop x.1) (fate.drop x.1) x.2).2,[]⟩:DK)=R) (0,(d.s0,d.s1)) ⟨by omega,by omega,rfl,g3,h.t0,h.t1,hR⟩ ?_ (he:=by simp[obOf])
   rintro⟨i,a,b⟩ ⟨hi,hj,ha,hb,ta,tb,hd⟩
   simp only at hi hj ha hb ta tb hd
   by_cases hil:i<d.late.length
   ·by_cases hjl:i<fate.length
    ·obtain⟨w,f1⟩:∃ w,d.late[i]?=some w:=⟨_,List.getElem?_eq_getElem hil⟩
     obtain⟨f,g1⟩:∃ f,fate[i]?=some f:=⟨_,List.getElem?_eq_getElem hjl⟩
     have f0:d.late[i]=w:=(List.getElem?_eq_some_iff.1 f1).2
     have g0:fate[i]=f:=(List.getElem?_eq_some_iff.1 g1).2
     have hw:=thereB_iff.1 (g7 w (List.mem_of_getElem? f1))
     rw[dropAt f1,dropAt g1,fallZ]at hd
     obtain⟨w1,w2,w3⟩:=hw
     have hli:(i:Int)<d.late.length:=by omega
     have hlj:(i:Int)<fate.length:=by omega
     have e2:=i64w ((i:Int)+1) (by omega) (by omega)
     have hl:(fallP (a,b) w f).1.length=a.length∧(fallP (a,b) w f).2.length=b.length:=fallP_len (a,b) w f
     have hx:=h.t2 w (List.mem_of_getElem? f1)
     have tp:=fallP_T (p:=(a,b)) (w:=w) (f:=f) ta tb hx
     have hla:w.la.toNat<a.length:=by omega
     have hlb:w.la.toNat<b.length:=by omega
     by_cases q1:f=1
     ·subst q1
      rcases w1 with w1 | w1
      ·simp -implicitDefEqProofs [obOf,LT.row,qad,hil,hjl,f0,f1,g0,g1,hli,hlj,e2,w1,w2.1,w2.2,strOb]
       refine⟨by omega,nx (i+1,fallP (a,b) w 1) [(2,2),(4,4),(5,5),(801,801),(802,802),(803,803)] ⟨by simp only;omega,by simp only;omega,by simp only;omega,by simp only;omega,tp.1,tp.2,hd⟩ (by simp only;omega) (h4:=?_)⟩
       simp[obOf,e2,fallP,putP,w1,strOb,qaf,hla]
      ·simp -implicitDefEqProofs [obOf,LT.row,qad,hil,hjl,f0,f1,g0,g1,hli,hlj,e2,w1,w2.1,w2.2,strOb]
       refine⟨by omega,by omega,nx (i+1,fallP (a,b) w 1) [(2,2),(4,4),(5,5),(801,801),(802,802),(803,803)] ⟨by simp only;omega,by simp only;omega,by simp only;omega,by simp only;omega,tp.1,tp.2,hd⟩ (by simp only;omega) (h4:=?_)⟩
       simp[obOf,e2,fallP,putP,w1,strOb,qaf,hlb]
     ·by_cases q2:f=2
      ·subst q2
       rcases w1 with w1 | w1
       ·obtain⟨o,ho⟩:∃ o,a[w.la.toNat]=o:=⟨_,rfl⟩
        have ho1:a[w.la.toNat]?=some o:=by rw[List.getElem?_eq_getElem hla,ho]
        have ho2:o.length≤1048576:=ta o (List.mem_of_getElem? ho1)
        simp -implicitDefEqProofs [obOf,LT.row,qad,hil,hjl,f0,f1,g0,g1,hli,hlj,e2,w1,w2.1,w2.2,strOb,qaf,hla,ho,ho1]
        first
         | refine(sTornC o w.lx ho2 hx).call ?_
         | refine⟨by omega,(sTornC o w.lx ho2 hx).call ?_⟩
         | refine⟨by omega,by omega,(sTornC o w.lx ho2 hx).call ?_⟩
         | refine⟨by omega,by omega,by omega,(sTornC o w.lx ho2 hx).call ?_⟩
        simp -implicitDefEqProofs [obOf,w1,w2.1,w2.2,strOb,qaf,hla,ho,ho1]
        refine nx (i+1,fallP (a,b) w 2) [(2,2),(4,4),(5,5),(801,801),(802,802),(803,803)] ⟨by simp only;omega,by simp only;omega,by simp only;omega,by simp only;omega,tp.1,tp.2,hd⟩ (by simp only;omega) (h4:=?_)
        simp[obOf,e2,fallP,putP,oldP,w1,strOb,qaf,hla,ho,ho1]
       ·obtain⟨o,ho⟩:∃ o,b[w.la.toNat]=o:=⟨_,rfl⟩
        have ho1:b[w.la.toNat]?=some o:=by rw[List.getElem?_eq_getElem hlb,ho]
        have ho2:o.length≤1048576:=tb o (List.mem_of_getElem? ho1)
        simp -implicitDefEqProofs [obOf,LT.row,qad,hil,hjl,f0,f1,g0,g1,hli,hlj,e2,w1,w2.1,w2.2,strOb,qaf,hlb,ho,ho1]
        first
         | refine(sTornC o w.lx ho2 hx).call ?_
         | refine⟨by omega,(sTornC o w.lx ho2 hx).call ?_⟩
         | refine⟨by omega,by omega,(sTornC o w.lx ho2 hx).call ?_⟩
         | refine⟨by omega,by omega,by omega,(sTornC o w.lx ho2 hx).call ?_⟩
        simp -implicitDefEqProofs [obOf,w1,w2.1,w2.2,strOb,qaf,hlb,ho,ho1]
        refine⟨by omega,nx (i+1,fallP (a,b) w 2) [(2,2),(4,4),(5,5),(801,801),(802,802),(803,803)] ⟨by simp only;omega,by simp only;omega,by simp only;omega,by simp only;omega,tp.1,tp.2,hd⟩ (by simp only;omega) (h4:=?_)⟩
        simp[obOf,e2,fallP,putP,oldP,w1,strOb,qaf,hlb,ho,ho1]
      ·simp -implicitDefEqProofs [obOf,LT.row,qad,hil,hjl,f0,f1,g0,g1,hli,hlj,e2,q1,q2]
       refine nx (i+1,fallP (a,b) w f) [(2,2),(4,4),(5,5),(801,801),(802,802),(803,803)] ⟨by simp only;omega,by simp only;omega,by simp only;omega,by simp only;omega,tp.1,tp.2,hd⟩ (by simp only;omega) (h4:=?_)
       simp[obOf,e2,fallP,q1,q2]
    ·rw[fallZ_end (.inr (List.drop_eq_nil_of_le (by omega)))]at hd
     have hlj:¬ (i:Int)<fate.length:=by omega
     have hli:(i:Int)<d.late.length:=by omega
     simp -implicitDefEqProofs [obOf,hli,hlj,← hd,ha,hb]
     first | omega | exact g3 | exact g3.symm
   ·rw[fallZ_end (.inl (List.drop_eq_nil_of_le (by omega)))]at hd
    have hli:¬ (i:Int)<d.late.length:=by omega
    simp -implicitDefEqProofs [obOf,hli,← hd,ha,hb]
    first | omega | exact g3 | exact g3.symm
 refine CV.of_frz key ?_ (hca:=by simp[DK.row,qad,qaf,LT.row]) (hcv:=by simp[DK.row])
 rintro r L' (⟨rfl,rfl,rfl⟩ | ⟨rfl,hl,rfl⟩)
 ·refine⟨by simp,by simp,by simp,?_⟩
  simp only[frzAll]
  exact impA_zd
 ·refine⟨by simp,by simp,by simp[clR,strOb,ltOb,qaf,LT.row],?_⟩
  simp[frzAll,DK.row,strOb,ltOb,qap,hl]
  exact impA_ag (.cons (qba _) (.cons (qba _) (.cons (qbn 3) .nil)))
theorem zDK_T:DkT zDK:=by constructor <;> simp[zDK]
theorem zK_T:CoT zK:=by constructor <;> simp[zK]
end Go.Av.F
end
