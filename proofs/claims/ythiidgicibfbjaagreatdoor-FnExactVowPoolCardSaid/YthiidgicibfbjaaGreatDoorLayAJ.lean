/- Lemmas for the proof, no statement of the seat; no conditions. -/
import Derived.Test.YthiidgicibfbjaaGreatDoorLayAI
import Derived.Test.YthiidgicibfbjaaGreatDoorProg
import Derived.RangeFuncBox
import Derived.RangeFuncLeaves
import Derived.Shelf.Abstract
import Derived.Shelf.RegionOpen
import Derived.WalkKit
import Derived.OwnWalkIn
import Derived.TacticsInMore
import Derived.LoopNIn
import Derived.LoopIn
set_option linter.unusedSimpArgs false
set_option linter.unusedVariables false
set_option linter.unnecessarySimpa false
set_option maxRecDepth 100000
set_option maxHeartbeats 400000
section
namespace Go.Av.F
open Go Go.Av Go.Proofs Go.Proofs.Tryz Go.RowKit Go.Shelf
attribute [local go_sem] Oper.semAt_some
set_option maxHeartbeats 2000000
def upT {N:Nat} (k:Nat) (_h:k≤N):List (Fin N):=(List.finRange N).take k
theorem qhP {N:Nat} (k:Nat) (h:k<N):upT (k+1) h=upT k (qHR h)++[⟨k,h⟩]:=by
 unfold upT;rw[qHN]
 congr 1
 simp[h]
theorem qwd {N:Nat} (k:Nat) (h:k≤N):(upT k h).length=k:=by simp[upT,h]
theorem qwe {N:Nat}:upT N (qFM N)=List.finRange N:=by
 unfold upT;exact qGh (by simp)
theorem quF {len k:Nat} (h:k<qaK 6 len):6 * k<len:=by unfold qaK at h;omega
theorem quG {len k:Nat} (h:¬ k<qaK 6 len) (hk:k≤qaK 6 len):len≤6 * k:=by unfold qaK at *;omega
theorem quH:qsW prog 338 3 6:=by
 intro n A1 A2 sv A len cap w hn hlen hb1 hb2 hc1 hc2 hA l J Jx W hW hJ hJx hY h0;have h1:=(hW.cell (p:=A1) hb1).trans hc1;have h2:=(hW.cell (p:=A2) hb2).trans hc2;refine callsIn_of_wp Tryz.func338 rfl trivial ?_ rfl;simp only[Tryz.ntmps338,List.size_toArray,qGk,qHf,Nat.reduceAdd,Nat.reduceSub,Array.replicate_succ,Array.replicate_zero,List.push_toArray,List.append_toArray,qGC,qHS];have h2':W.cell? A2=some (Value.int IntKind.i64 6):=h2;have hdr:∀ (pre:List (Fin (qaK 6 len))) (X:World),J pre X→J pre X.drew:=fun pre X h=>hJ pre X X.drew none h ⟨rfl,rfl,rfl,qFM _,fun _ _ _=>rfl⟩ (fun r e=>by cases e)
 gi_wp2
 gi_loopw [4] (fun i wr=>∃ (k:Nat) (hk:k≤qaK 6 len),i=.int .i64 (6 * (k:Int))∧J (upT k hk) wr∧wr.cell? A1=some sv∧wr.cell? A2=some (Value.int IntKind.i64 6)) (fun i _=>len+6-(intOf i).toNat)
 case atStart=>exact⟨0,qGe _,rfl,h0,h1,h2'⟩
 case round =>
  obtain⟨k,hk,rfl,hJs,hs1,hs2⟩:=hrel;by_cases hlt:k<qaK 6 len
  ·have hc:=quF hlt;rcases hA with⟨hAs,rfl,hlc⟩ | ⟨h,_⟩;rotate_left
   ·omega
   obtain⟨fn,tmps,assign,bd,hy,hR⟩:=hY _ ⟨k,hlt⟩ wr.drew (hdr _ _ hJs) (by rw[qwd];exact hlt);have ha:A.at (6 * k * 3)=A.add (6 * k * 3):=by
    obtain⟨b1,b2,b3⟩:=A;simp only at hAs;subst hAs;unfold Addr.at Addr.add;split
    ·rename_i h;rw[h];rfl
    ·rfl
   have hv:qbC A 3 6 len k=.slice (some (A.add (6 * k * 3))) (min 6 (len-6 * k)) (min 6 (len-6 * k)):=by
    unfold qbC;rw[ha]
   rw[show qbC A 3 6 len ((⟨k,hlt⟩:Fin (qaK 6 len)):Nat)=_ from hv]at hy;by_cases h6:len-6 * k<6
   ·have h6':((len-6 * k:Nat):Int)<6:=by omega
    rw[show min 6 (len-6 * k)=len-6 * k by omega]at hy
    gi_wp2
    gi_region
    gi_wp2
    refine hR.mono ?_;rintro e W3 (⟨rfl,hJ3,hq1,hq2⟩ | ⟨rfl,hJx3⟩)
    ·have hs1':W3.cell? A1=some (Value.slice (some A) len cap):=hq1.trans hs1;have hs2':W3.cell? A2=some (Value.int IntKind.i64 6):=hq2.trans hs2
     gi_wp2
     go_roundw
     case rel=>exact⟨k+1,hlt,by simp;omega,by rw[qhP k hlt];exact hJ3,hs1',hs2'⟩
     case measure=>simp[intOf];omega
    ·gi_wp2
     refine bodyPost_ret (results_none rfl _ _ _) rfl ?_;exact⟨⟨_,rfl⟩,.inr ⟨_,⟨k+1,(qhP k hlt).symm⟩,hJx3⟩⟩
   ·have h6':¬ ((len-6 * k:Nat):Int)<6:=by omega
    rw[show min 6 (len-6 * k)=6 by omega]at hy
    gi_wp2
    gi_region
    gi_wp2
    refine hR.mono ?_;rintro e W3 (⟨rfl,hJ3,hq1,hq2⟩ | ⟨rfl,hJx3⟩)
    ·have hs1':W3.cell? A1=some (Value.slice (some A) len cap):=hq1.trans hs1;have hs2':W3.cell? A2=some (Value.int IntKind.i64 6):=hq2.trans hs2
     gi_wp2
     go_roundw
     case rel=>exact⟨k+1,hlt,by simp;omega,by rw[qhP k hlt];exact hJ3,hs1',hs2'⟩
     case measure=>simp[intOf];omega
    ·gi_wp2
     refine bodyPost_ret (results_none rfl _ _ _) rfl ?_;exact⟨⟨_,rfl⟩,.inr ⟨_,⟨k+1,(qhP k hlt).symm⟩,hJx3⟩⟩
  ·have hc:=quG hlt hk;have hkN:k=qaK 6 len:=by omega
   have hnl:¬ (6 * (k:Int))<len:=by omega
   have fin:J (List.finRange (qaK 6 len)) wr:=by
    have e:upT k hk=List.finRange (qaK 6 len):=by subst hkN;exact qwe
    rw[← e];exact hJs
   rcases hA with⟨hAs,rfl,hlc⟩ | ⟨rfl,aa,cc,rfl⟩
   ·gi_wp2
    go_end0
    exact⟨⟨_,rfl⟩,.inl fin⟩
   ·gi_wp2
    go_end0
    exact⟨⟨_,rfl⟩,.inl fin⟩
end Go.Av.F
end
