/- Lemmas for the proof, no statement of the seat; no conditions. -/
import Derived.Test.YtcbjbdnmhlhijaaGreatDoorLayAR
set_option linter.unusedSimpArgs false
set_option linter.unusedVariables false
set_option linter.unnecessarySimpa false
set_option maxRecDepth 100000
section
namespace Go.Av.F
open Go Go.Av Go.Proofs Go.Proofs.Tryz
theorem clCsO (l:List CS) (hl:l.length≤1048576):ACall prog 169 [.lst 31 (l.map CS.row)] [] (fun r L'=>r=.sl 7 0 l.length∧L'=[(7,kcs l)]):=by
 have key:ACall prog 169 [.lst 31 (l.map CS.row)] [] (fun r L'=>(l=[]∧r=.nils∧L'=[])∨(r=.sl 7 0 l.length∧L'=[(7,kcs l)])):=by
  refine acx func169 [] ntmps169 rfl rfl rfl ?_
  by_cases h:l=[]
  ·subst h
   simp -implicitDefEqProofs [kcs]
  ·simp -implicitDefEqProofs [h,kcs]
   exact⟨by omega,fun x _ y hy=>cs_ones x y hy⟩
 refine ACall.nils (id:=7) (sz:=31) key (by simp) ?_
 rintro r L' (⟨rfl,rfl,rfl⟩ | ⟨rfl,rfl⟩)
 ·exact .inr ⟨rfl,rfl,rfl⟩
 ·exact .inl ⟨rfl,rfl⟩
theorem clDeO (l:List DE) (hl:l.length≤1048576):ACall prog 170 [.lst 3 (l.map DE.row)] [] (fun r L'=>r=.sl 7 0 l.length∧L'=[(7,deOb l)]):=by
 have key:ACall prog 170 [.lst 3 (l.map DE.row)] [] (fun r L'=>(l=[]∧r=.nils∧L'=[])∨(r=.sl 7 0 l.length∧L'=[(7,deOb l)])):=by
  refine acx func170 [] ntmps170 rfl rfl rfl ?_
  by_cases h:l=[]
  ·subst h
   simp -implicitDefEqProofs [deOb]
  ·simp -implicitDefEqProofs [h,deOb]
   omega
 refine ACall.nils (id:=7) (sz:=3) key (by simp) ?_
 rintro r L' (⟨rfl,rfl,rfl⟩ | ⟨rfl,rfl⟩)
 ·exact .inr ⟨rfl,rfl,rfl⟩
 ·exact .inl ⟨rfl,rfl⟩
theorem clPtO (l:List PT) (hl:l.length≤1048576):ACall prog 171 [.lst 3 (l.map PT.row)] [] (fun r L'=>r=.sl 7 0 l.length∧L'=[(7,kpt l)]):=by
 have key:ACall prog 171 [.lst 3 (l.map PT.row)] [] (fun r L'=>(l=[]∧r=.nils∧L'=[])∨(r=.sl 7 0 l.length∧L'=[(7,kpt l)])):=by
  refine acx func171 [] ntmps171 rfl rfl rfl ?_
  by_cases h:l=[]
  ·subst h
   simp -implicitDefEqProofs [kpt]
  ·simp -implicitDefEqProofs [h,kpt]
   omega
 refine ACall.nils (id:=7) (sz:=3) key (by simp) ?_
 rintro r L' (⟨rfl,rfl,rfl⟩ | ⟨rfl,rfl⟩)
 ·exact .inr ⟨rfl,rfl,rfl⟩
 ·exact .inl ⟨rfl,rfl⟩
theorem clInO (l:List Int) (hl:l.length≤1048576):ACall prog 172 [.lst 1 (l.map qac)] [] (fun r L'=>r=.sl 7 0 l.length∧L'=[(7,kin l)]):=by
 have key:ACall prog 172 [.lst 1 (l.map qac)] [] (fun r L'=>(l=[]∧r=.nils∧L'=[])∨(r=.sl 7 0 l.length∧L'=[(7,kin l)])):=by
  refine acx func172 [] ntmps172 rfl rfl rfl ?_
  by_cases h:l=[]
  ·subst h
   simp -implicitDefEqProofs [kin]
  ·simp -implicitDefEqProofs [h,kin]
   omega
 refine ACall.nils (id:=7) (sz:=1) key (by simp) ?_
 rintro r L' (⟨rfl,rfl,rfl⟩ | ⟨rfl,rfl⟩)
 ·exact .inr ⟨rfl,rfl,rfl⟩
 ·exact .inl ⟨rfl,rfl⟩
theorem iKOwnO (c:CO) (h:CoT c):ACall prog 84 [.agg c.row] [] (fun r L'=>r=coreA c 5 8 11 14∧L'=[(5,kcs c.sets),(8,deOb c.ddt),(11,kpt c.parts),(14,kin c.safe)]):=by
 have c1:=clCsO c.sets h.sets
 have c2:=clDeO c.ddt h.ddt
 have c3:=clPtO c.parts h.parts
 have c4:=clInO c.safe h.safe
 refine acx func84 [(1,[zI 0,zJ 1 [1] [],zJ 3 [] [1],zJ 4 [1] [1],zJ 6 [] [1],zJ 7 [1] [1],zJ 9 [] [1],zJ 10 [1] [1],zJ 2 [] [1],zI 12,zJ 5 [] [1],zJ 8 [] [1],zI 11,zI 13,zI 14,zI 15,zI 16,zI 17,zI 18,zI 19])] ntmps84 rfl rfl rfl ?_
 simp -implicitDefEqProofs [CO.row]
 refine qaf [] (by kernel_rfl) c1 (by simp[cs_cl]) (by simp) trivial (by simp) (by simp) ?_
 rintro r L' ⟨rfl,rfl⟩
 refine⟨[(7,5)],⟨by simp,by simp,by simp,by simp,by simp⟩,?_⟩
 simp only[qan]
 simp -implicitDefEqProofs
 refine qaf [] (by kernel_rfl) c2 (by simp[DE.row]) (by simp) trivial (by simp) (by simp) ?_
 rintro r L' ⟨rfl,rfl⟩
 refine⟨[(7,8)],⟨by simp,by simp,by simp,by simp,by simp⟩,?_⟩
 simp only[qan]
 simp -implicitDefEqProofs
 refine qaf [] (by kernel_rfl) c3 (by simp[PT.row]) (by simp) trivial (by simp) (by simp) ?_
 rintro r L' ⟨rfl,rfl⟩
 refine⟨[(7,11)],⟨by simp,by simp,by simp,by simp,by simp⟩,?_⟩
 simp only[qan]
 simp -implicitDefEqProofs
 refine qaf [] (by kernel_rfl) c4 (by simp[qac]) (by simp) trivial (by simp) (by simp) ?_
 rintro r L' ⟨rfl,rfl⟩
 refine⟨[(7,14)],⟨by simp,by simp,by simp,by simp,by simp⟩,?_⟩
 simp only[qan]
 simp -implicitDefEqProofs [coreA]
def poolA (p:PO) (a0 a1 a2 b0 b1 b2 b3:Nat):List AV:=[.sl a0 0 p.d.s0.length,.sl a1 0 p.d.s1.length,.sl a2 0 p.d.late.length,.int .i64 p.c.txg,.sl b0 0 p.c.sets.length,.sl b1 0 p.c.ddt.length,.sl b2 0 p.c.parts.length,.bool p.c.dirty,.sl b3 0 p.c.safe.length,.int .i64 p.c.logn,.bool p.up]
def poolL (p:PO) (a0 a1 a2 b0 b1 b2 b3:Nat):List (Nat×Ob):=[(a0,strOb p.d.s0),(a1,strOb p.d.s1),(a2,ltOb p.d.late),(b0,kcs p.c.sets),(b1,deOb p.c.ddt),(b2,kpt p.c.parts),(b3,kin p.c.safe)]
def dskA (d:DK) (a0 a1 a2:Nat):List AV:=[.sl a0 0 d.s0.length,.sl a1 0 d.s1.length,.sl a2 0 d.late.length]
@[simp] theorem renOb_dsk (ρ:Nat→Option Plc) (d:DK) (a0 a1 a2:Nat):renOb ρ ⟨3,[dskA d a0 a1 a2]⟩=⟨3,[renL ρ (dskA d a0 a1 a2)]⟩:=rfl
theorem clR_lt (l:List LT):clR (ltOb l).els=true:=by simp[clR,ltOb,LT.row]
end Go.Av.F
end
section
namespace Go.Av.F
open Go Go.Av
open Go.Proofs Go.Proofs.Tryz
attribute [-simp] getU hdS canon qab i64w
attribute [local simp] tt3 tt4 tt9 tt5 tt43 tt97 tt42 tt93 tt91 tt90
end Go.Av.F
end
