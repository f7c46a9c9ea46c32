/- Lemmas for the proof, no statement of the seat; no conditions. -/
import Derived.Test.YtbdklnphnibfiaaDoorLayAN
import Derived.Lib.LaidTab
import Derived.FnData
import Derived.Test.YtbdklnphnibfiaaDoorRows
import Derived.Test.YtbdklnphnibfiaaDoorCards
import Derived.ProofKit
import Derived.OpenShut
import Derived.LaidMore
import Derived.Lay
import Derived.SevenTiedAt
import Derived.Stop.Joined
set_option linter.unusedSimpArgs false
set_option linter.unusedVariables false
set_option linter.unnecessarySimpa false
set_option maxRecDepth 100000
section
namespace Go.Av.F
open Go Go.Av Go.Proofs Go.Proofs.Tryd
set_option maxHeartbeats 4000000 in
theorem eqBksO (l:List (List BS)) (h9:l.length≤9) (hL:∀ b∈l,b.length≤100∧∀ x∈b,x.bl.length=8) :
  ACall prog 8 [.sl 1000 0 l.length,.lst 1 (l.map bkRow)] ((1000,⟨1,bqR 1001 l⟩)::bqL 1001 l) (fun r L'=>r=.bool true∧L'=(1000,⟨1,bqR 1001 l⟩)::bqL 1001 l):=by
 obtain⟨Mf,hM⟩:∃ Mf:List (Nat×Ob),Mf=(1000,⟨1,bqR 1001 l⟩)::bqL 1001 l:=⟨_,rfl⟩
 obtain⟨φ,hφ⟩:∃ φ,φ=(1000,1000)::bqI 1001 l:=⟨_,rfl⟩
 obtain⟨n,hn⟩:∃ n,n=l.length:=⟨_,rfl⟩
 have cm:=fun b (hb:b∈l)=>eqBookC b b (by have:=(hL b hb).1;omega) (hL b hb).2 (hL b hb).2
 have hnod:=bqL_nod l h9 ⟨1,bqR 1001 l⟩
 rcases upto9 l h9 with rfl | ⟨b0,rfl⟩ | ⟨b0,b1,rfl⟩ | ⟨b0,b1,b2,rfl⟩ | ⟨b0,b1,b2,b3,rfl⟩ | ⟨b0,b1,b2,b3,b4,rfl⟩ | ⟨b0,b1,b2,b3,b4,b5,rfl⟩ | ⟨b0,b1,b2,b3,b4,b5,b6,rfl⟩ | ⟨b0,b1,b2,b3,b4,b5,b6,b7,rfl⟩ | ⟨b0,b1,b2,b3,b4,b5,b6,b7,b8,rfl⟩
 ·refine acx func8 [(6,[zI 0,zI 1,zJ 2 [1000] [],zJ 3 [1000] [],zJ 4 [] [1000],zJ 5 [] [1000],zJ 6 [] [1000],zJ 7 [] [1000],zI 8,zI 9])] ntmps8 rfl rfl rfl ?_ (hL:=hnod)
  simp -implicitDefEqProofs [bqL,bqR]
  simp only[List.length_cons,List.length_nil]at hn
  refine ev_lo (X:=Nat) [0,1,4,5] φ (fun i=>[(5,.int .i64 i)]) (fun _=>Mf) (fun i=>n-i) (fun i=>i≤n) 0 (by omega) ?_ (h0:=by rw[hφ];simp[bqI]) (he:=by rw[hφ];simp[hM,bqL,bqR,bqI,obOf])
  rintro i hi
  rcases nine (show i≤9 by omega)with rfl | rfl | rfl | rfl | rfl | rfl | rfl | rfl | rfl | rfl
  all_goals try (exfalso;omega)
  ·simp -implicitDefEqProofs [hM,bqL,bqR]
 ·refine acx func8 [(6,[zI 0,zI 1,zJ 2 [1000] [],zJ 3 [1000] [],zJ 4 [] [1000],zJ 5 [] [1000],zJ 6 [] [1000],zJ 7 [] [1000],zJ 8 [1001] [],zI 9])] ntmps8 rfl rfl rfl ?_ (hL:=hnod)
  simp -implicitDefEqProofs [bqL,bqR]
  simp only[List.length_cons,List.length_nil]at hn
  refine ev_lo (X:=Nat) [0,1,4,5] φ (fun i=>[(5,.int .i64 i)]) (fun _=>Mf) (fun i=>n-i) (fun i=>i≤n) 0 (by omega) ?_ (h0:=by rw[hφ];simp[bqI]) (he:=by rw[hφ];simp[hM,bqL,bqR,bqI,obOf])
  rintro i hi
  rcases nine (show i≤9 by omega)with rfl | rfl | rfl | rfl | rfl | rfl | rfl | rfl | rfl | rfl
  all_goals try (exfalso;omega)
  ·have c:=cm b0 (by simp)
   simp only[bk,decide_true]at c
   simp -implicitDefEqProofs [hM,bqL,bqR,bkRow]
   refine c.view (by simp[vwOk,mtA,bkOb];try exact List.take_of_length_le (by simp)) ?_
   simp -implicitDefEqProofs
   exact nx 1 φ (by omega) (by omega) (h3:=by rw[hφ];simp[bqI]) (h4:=by rw[hφ];simp[hM,bqL,bqR,bqI,obOf])
  ·simp -implicitDefEqProofs [hM,bqL,bqR]
 ·refine acx func8 [(6,[zI 0,zI 1,zJ 2 [1000] [],zJ 3 [1000] [],zJ 4 [] [1000],zJ 5 [] [1000],zJ 6 [] [1000],zJ 7 [] [1000],zJ 8 [1001,1002] [],zI 9])] ntmps8 rfl rfl rfl ?_ (hL:=hnod)
  simp -implicitDefEqProofs [bqL,bqR]
  simp only[List.length_cons,List.length_nil]at hn
  refine ev_lo (X:=Nat) [0,1,4,5] φ (fun i=>[(5,.int .i64 i)]) (fun _=>Mf) (fun i=>n-i) (fun i=>i≤n) 0 (by omega) ?_ (h0:=by rw[hφ];simp[bqI]) (he:=by rw[hφ];simp[hM,bqL,bqR,bqI,obOf])
  rintro i hi
  rcases nine (show i≤9 by omega)with rfl | rfl | rfl | rfl | rfl | rfl | rfl | rfl | rfl | rfl
  all_goals try (exfalso;omega)
  ·have c:=cm b0 (by simp)
   simp only[bk,decide_true]at c
   simp -implicitDefEqProofs [hM,bqL,bqR,bkRow]
   refine c.view (by simp[vwOk,mtA,bkOb];try exact List.take_of_length_le (by simp)) ?_
   simp -implicitDefEqProofs
   exact nx 1 φ (by omega) (by omega) (h3:=by rw[hφ];simp[bqI]) (h4:=by rw[hφ];simp[hM,bqL,bqR,bqI,obOf])
  ·have c:=cm b1 (by simp)
   simp only[bk,decide_true]at c
   simp -implicitDefEqProofs [hM,bqL,bqR,bkRow]
   refine c.view (by simp[vwOk,mtA,bkOb];try exact List.take_of_length_le (by simp)) ?_
   simp -implicitDefEqProofs
   exact nx 2 φ (by omega) (by omega) (h3:=by rw[hφ];simp[bqI]) (h4:=by rw[hφ];simp[hM,bqL,bqR,bqI,obOf])
  ·simp -implicitDefEqProofs [hM,bqL,bqR]
 ·refine acx func8 [(6,[zI 0,zI 1,zJ 2 [1000] [],zJ 3 [1000] [],zJ 4 [] [1000],zJ 5 [] [1000],zJ 6 [] [1000],zJ 7 [] [1000],zJ 8 [1001,1002,1003] [],zI 9])] ntmps8 rfl rfl rfl ?_ (hL:=hnod)
  simp -implicitDefEqProofs [bqL,bqR]
  simp only[List.length_cons,List.length_nil]at hn
  refine ev_lo (X:=Nat) [0,1,4,5] φ (fun i=>[(5,.int .i64 i)]) (fun _=>Mf) (fun i=>n-i) (fun i=>i≤n) 0 (by omega) ?_ (h0:=by rw[hφ];simp[bqI]) (he:=by rw[hφ];simp[hM,bqL,bqR,bqI,obOf])
  rintro i hi
  rcases nine (show i≤9 by omega)with rfl | rfl | rfl | rfl | rfl | rfl | rfl | rfl | rfl | rfl
  all_goals try (exfalso;omega)
  ·have c:=cm b0 (by simp)
   simp only[bk,decide_true]at c
   simp -implicitDefEqProofs [hM,bqL,bqR,bkRow]
   refine c.view (by simp[vwOk,mtA,bkOb];try exact List.take_of_length_le (by simp)) ?_
   simp -implicitDefEqProofs
   exact nx 1 φ (by omega) (by omega) (h3:=by rw[hφ];simp[bqI]) (h4:=by rw[hφ];simp[hM,bqL,bqR,bqI,obOf])
  ·have c:=cm b1 (by simp)
   simp only[bk,decide_true]at c
   simp -implicitDefEqProofs [hM,bqL,bqR,bkRow]
   refine c.view (by simp[vwOk,mtA,bkOb];try exact List.take_of_length_le (by simp)) ?_
   simp -implicitDefEqProofs
   exact nx 2 φ (by omega) (by omega) (h3:=by rw[hφ];simp[bqI]) (h4:=by rw[hφ];simp[hM,bqL,bqR,bqI,obOf])
  ·have c:=cm b2 (by simp)
   simp only[bk,decide_true]at c
   simp -implicitDefEqProofs [hM,bqL,bqR,bkRow]
   refine c.view (by simp[vwOk,mtA,bkOb];try exact List.take_of_length_le (by simp)) ?_
   simp -implicitDefEqProofs
   exact nx 3 φ (by omega) (by omega) (h3:=by rw[hφ];simp[bqI]) (h4:=by rw[hφ];simp[hM,bqL,bqR,bqI,obOf])
  ·simp -implicitDefEqProofs [hM,bqL,bqR]
 ·refine acx func8 [(6,[zI 0,zI 1,zJ 2 [1000] [],zJ 3 [1000] [],zJ 4 [] [1000],zJ 5 [] [1000],zJ 6 [] [1000],zJ 7 [] [1000],zJ 8 [1001,1002,1003,1004] [],zI 9])] ntmps8 rfl rfl rfl ?_ (hL:=hnod)
  simp -implicitDefEqProofs [bqL,bqR]
  simp only[List.length_cons,List.length_nil]at hn
  refine ev_lo (X:=Nat) [0,1,4,5] φ (fun i=>[(5,.int .i64 i)]) (fun _=>Mf) (fun i=>n-i) (fun i=>i≤n) 0 (by omega) ?_ (h0:=by rw[hφ];simp[bqI]) (he:=by rw[hφ];simp[hM,bqL,bqR,bqI,obOf])
  rintro i hi
  rcases nine (show i≤9 by omega)with rfl | rfl | rfl | rfl | rfl | rfl | rfl | rfl | rfl | rfl
  all_goals try (exfalso;omega)
  ·have c:=cm b0 (by simp)
   simp only[bk,decide_true]at c
   simp -implicitDefEqProofs [hM,bqL,bqR,bkRow]
   refine c.view (by simp[vwOk,mtA,bkOb];try exact List.take_of_length_le (by simp)) ?_
   simp -implicitDefEqProofs
   exact nx 1 φ (by omega) (by omega) (h3:=by rw[hφ];simp[bqI]) (h4:=by rw[hφ];simp[hM,bqL,bqR,bqI,obOf])
  ·have c:=cm b1 (by simp)
   simp only[bk,decide_true]at c
   simp -implicitDefEqProofs [hM,bqL,bqR,bkRow]
   refine c.view (by simp[vwOk,mtA,bkOb];try exact List.take_of_length_le (by simp)) ?_
   simp -implicitDefEqProofs
   exact nx 2 φ (by omega) (by omega) (h3:=by rw[hφ];simp[bqI]) (h4:=by rw[hφ];simp[hM,bqL,bqR,bqI,obOf])
  ·have c:=cm b2 (by simp)
   simp only[bk,decide_true]at c
   simp -implicitDefEqProofs [hM,bqL,bqR,bkRow]
   refine c.view (by simp[vwOk,mtA,bkOb];try exact List.take_of_length_le (by simp)) ?_
   simp -implicitDefEqProofs
   exact nx 3 φ (by omega) (by omega) (h3:=by rw[hφ];simp[bqI]) (h4:=by rw[hφ];simp[hM,bqL,bqR,bqI,obOf])
  ·have c:=cm b3 (by simp)
   simp only[bk,decide_true]at c
   simp -implicitDefEqProofs [hM,bqL,bqR,bkRow]
   refine c.view (by simp[vwOk,mtA,bkOb];try exact List.take_of_length_le (by simp)) ?_
   simp -implicitDefEqProofs
   exact nx 4 φ (by omega) (by omega) (h3:=by rw[hφ];simp[bqI]) (h4:=by rw[hφ];simp[hM,bqL,bqR,bqI,obOf])
  ·simp -implicitDefEqProofs [hM,bqL,bqR]
 ·refine acx func8 [(6,[zI 0,zI 1,zJ 2 [1000] [],zJ 3 [1000] [],zJ 4 [] [1000],zJ 5 [] [1000],zJ 6 [] [1000],zJ 7 [] [1000],zJ 8 [1001,1002,1003,1004,1005] [],zI 9])] ntmps8 rfl rfl rfl ?_ (hL:=hnod)
  simp -implicitDefEqProofs [bqL,bqR]
  simp only[List.length_cons,List.length_nil]at hn
  refine ev_lo (X:=Nat) [0,1,4,5] φ (fun i=>[(5,.int .i64 i)]) (fun _=>Mf) (fun i=>n-i) (fun i=>i≤n) 0 (by omega) ?_ (h0:=by rw[hφ];simp[bqI]) (he:=by rw[hφ];simp[hM,bqL,bqR,bqI,obOf])
  rintro i hi
  rcases nine (show i≤9 by omega)with rfl | rfl | rfl | rfl | rfl | rfl | rfl | rfl | rfl | rfl
  all_goals try (exfalso;omega)
  ·have c:=cm b0 (by simp)
   simp only[bk,decide_true]at c
   simp -implicitDefEqProofs [hM,bqL,bqR,bkRow]
   refine c.view (by simp[vwOk,mtA,bkOb];try exact List.take_of_length_le (by simp)) ?_
   simp -implicitDefEqProofs
   exact nx 1 φ (by omega) (by omega) (h3:=by rw[hφ];simp[bqI]) (h4:=by rw[hφ];simp[hM,bqL,bqR,bqI,obOf])
  ·have c:=cm b1 (by simp)
   simp only[bk,decide_true]at c
   simp -implicitDefEqProofs [hM,bqL,bqR,bkRow]
   refine c.view (by simp[vwOk,mtA,bkOb];try exact List.take_of_length_le (by simp)) ?_
   simp -implicitDefEqProofs
   exact nx 2 φ (by omega) (by omega) (h3:=by rw[hφ];simp[bqI]) (h4:=by rw[hφ];simp[hM,bqL,bqR,bqI,obOf])
  ·have c:=cm b2 (by simp)
   simp only[bk,decide_true]at c
   simp -implicitDefEqProofs [hM,bqL,bqR,bkRow]
   refine c.view (by simp[vwOk,mtA,bkOb];try exact List.take_of_length_le (by simp)) ?_
   simp -implicitDefEqProofs
   exact nx 3 φ (by omega) (by omega) (h3:=by rw[hφ];simp[bqI]) (h4:=by rw[hφ];simp[hM,bqL,bqR,bqI,obOf])
  ·have c:=cm b3 (by simp)
   simp only[bk,decide_true]at c
   simp -implicitDefEqProofs [hM,bqL,bqR,bkRow]
   refine c.view (by simp[vwOk,mtA,bkOb];try exact List.take_of_length_le (by simp)) ?_
   simp -implicitDefEqProofs
   exact nx 4 φ (by omega) (by omega) (h3:=by rw[hφ];simp[bqI]) (h4:=by rw[hφ];simp[hM,bqL,bqR,bqI,obOf])
  ·have c:=cm b4 (by simp)
   simp only[bk,decide_true]at c
   simp -implicitDefEqProofs [hM,bqL,bqR,bkRow]
   refine c.view (by simp[vwOk,mtA,bkOb];try exact List.take_of_length_le (by simp)) ?_
   simp -implicitDefEqProofs
   exact nx 5 φ (by omega) (by omega) (h3:=by rw[hφ];simp[bqI]) (h4:=by rw[hφ];simp[hM,bqL,bqR,bqI,obOf])
  ·simp -implicitDefEqProofs [hM,bqL,bqR]
 ·refine acx func8 [(6,[zI 0,zI 1,zJ 2 [1000] [],zJ 3 [1000] [],zJ 4 [] [1000],zJ 5 [] [1000],zJ 6 [] [1000],zJ 7 [] [1000],zJ 8 [1001,1002,1003,1004,1005,1006] [],zI 9])] ntmps8 rfl rfl rfl ?_ (hL:=hnod)
  simp -implicitDefEqProofs [bqL,bqR]
  simp only[List.length_cons,List.length_nil]at hn
  refine ev_lo (X:=Nat) [0,1,4,5] φ (fun i=>[(5,.int .i64 i)]) (fun _=>Mf) (fun i=>n-i) (fun i=>i≤n) 0 (by omega) ?_ (h0:=by rw[hφ];simp[bqI]) (he:=by rw[hφ];simp[hM,bqL,bqR,bqI,obOf])
  rintro i hi
  rcases nine (show i≤9 by omega)with rfl | rfl | rfl | rfl | rfl | rfl | rfl | rfl | rfl | rfl
  all_goals try (exfalso;omega)
  ·have c:=cm b0 (by simp)
   simp only[bk,decide_true]at c
   simp -implicitDefEqProofs [hM,bqL,bqR,bkRow]
   refine c.view (by simp[vwOk,mtA,bkOb];try exact List.take_of_length_le (by simp)) ?_
   simp -implicitDefEqProofs
   exact nx 1 φ (by omega) (by omega) (h3:=by rw[hφ];simp[bqI]) (h4:=by rw[hφ];simp[hM,bqL,bqR,bqI,obOf])
  ·have c:=cm b1 (by simp)
   simp only[bk,decide_true]at c
   simp -implicitDefEqProofs [hM,bqL,bqR,bkRow]
   refine c.view (by simp[vwOk,mtA,bkOb];try exact List.take_of_length_le (by simp)) ?_
   simp -implicitDefEqProofs
   exact nx 2 φ (by omega) (by omega) (h3:=by rw[hφ];simp[bqI]) (h4:=by rw[hφ];simp[hM,bqL,bqR,bqI,obOf])
  ·have c:=cm b2 (by simp)
   simp only[bk,decide_true]at c
   simp -implicitDefEqProofs [hM,bqL,bqR,bkRow]
   refine c.view (by simp[vwOk,mtA,bkOb];try exact List.take_of_length_le (by simp)) ?_
   simp -implicitDefEqProofs
   exact nx 3 φ (by omega) (by omega) (h3:=by rw[hφ];simp[bqI]) (h4:=by rw[hφ];simp[hM,bqL,bqR,bqI,obOf])
  ·have c:=cm b3 (by simp)
   simp only[bk,decide_true]at c
   simp -implicitDefEqProofs [hM,bqL,bqR,bkRow]
   refine c.view (by simp[vwOk,mtA,bkOb];try exact List.take_of_length_le (by simp)) ?_
   simp -implicitDefEqProofs
   exact nx 4 φ (by omega) (by omega) (h3:=by rw[hφ];simp[bqI]) (h4:=by rw[hφ];simp[hM,bqL,bqR,bqI,obOf])
  ·have c:=cm b4 (by simp)
   simp only[bk,decide_true]at c
   simp -implicitDefEqProofs [hM,bqL,bqR,bkRow]
   refine c.view (by simp[vwOk,mtA,bkOb];try exact List.take_of_length_le (by simp)) ?_
   simp -implicitDefEqProofs
   exact nx 5 φ (by omega) (by omega) (h3:=by rw[hφ];simp[bqI]) (h4:=by rw[hφ];simp[hM,bqL,bqR,bqI,obOf])
  ·have c:=cm b5 (by simp)
   simp only[bk,decide_true]at c
   simp -implicitDefEqProofs [hM,bqL,bqR,bkRow]
   refine c.view (by simp[vwOk,mtA,bkOb];try exact List.take_of_length_le (by simp)) ?_
   simp -implicitDefEqProofs
   exact nx 6 φ (by omega) (by omega) (h3:=by rw[hφ];simp[bqI]) (h4:=by rw[hφ];simp[hM,bqL,bqR,bqI,obOf])
  ·simp -implicitDefEqProofs [hM,bqL,bqR]
 ·refine acx func8 [(6,[zI 0,zI 1,zJ 2 [1000] [],zJ 3 [1000] [],zJ 4 [] [1000],zJ 5 [] [1000],zJ 6 [] [1000],zJ 7 [] [1000],zJ 8 [1001,1002,1003,1004,1005,1006,1007] [],zI 9])] ntmps8 rfl rfl rfl ?_ (hL:=hnod)
  simp -implicitDefEqProofs [bqL,bqR]
  simp only[List.length_cons,List.length_nil]at hn
  refine ev_lo (X:=Nat) [0,1,4,5] φ (fun i=>[(5,.int .i64 i)]) (fun _=>Mf) (fun i=>n-i) (fun i=>i≤n) 0 (by omega) ?_ (h0:=by rw[hφ];simp[bqI]) (he:=by rw[hφ];simp[hM,bqL,bqR,bqI,obOf])
  rintro i hi
  rcases nine (show i≤9 by omega)with rfl | rfl | rfl | rfl | rfl | rfl | rfl | rfl | rfl | rfl
  all_goals try (exfalso;omega)
  ·have c:=cm b0 (by simp)
   simp only[bk,decide_true]at c
   simp -implicitDefEqProofs [hM,bqL,bqR,bkRow]
   refine c.view (by simp[vwOk,mtA,bkOb];try exact List.take_of_length_le (by simp)) ?_
   simp -implicitDefEqProofs
   exact nx 1 φ (by omega) (by omega) (h3:=by rw[hφ];simp[bqI]) (h4:=by rw[hφ];simp[hM,bqL,bqR,bqI,obOf])
  ·have c:=cm b1 (by simp)
   simp only[bk,decide_true]at c
   simp -implicitDefEqProofs [hM,bqL,bqR,bkRow]
   refine c.view (by simp[vwOk,mtA,bkOb];try exact List.take_of_length_le (by simp)) ?_
   simp -implicitDefEqProofs
   exact nx 2 φ (by omega) (by omega) (h3:=by rw[hφ];simp[bqI]) (h4:=by rw[hφ];simp[hM,bqL,bqR,bqI,obOf])
  ·have c:=cm b2 (by simp)
   simp only[bk,decide_true]at c
   simp -implicitDefEqProofs [hM,bqL,bqR,bkRow]
   refine c.view (by simp[vwOk,mtA,bkOb];try exact List.take_of_length_le (by simp)) ?_
   simp -implicitDefEqProofs
   exact nx 3 φ (by omega) (by omega) (h3:=by rw[hφ];simp[bqI]) (h4:=by rw[hφ];simp[hM,bqL,bqR,bqI,obOf])
  ·have c:=cm b3 (by simp)
   simp only[bk,decide_true]at c
   simp -implicitDefEqProofs [hM,bqL,bqR,bkRow]
   refine c.view (by simp[vwOk,mtA,bkOb];try exact List.take_of_length_le (by simp)) ?_
   simp -implicitDefEqProofs
   exact nx 4 φ (by omega) (by omega) (h3:=by rw[hφ];simp[bqI]) (h4:=by rw[hφ];simp[hM,bqL,bqR,bqI,obOf])
  ·have c:=cm b4 (by simp)
   simp only[bk,decide_true]at c
   simp -implicitDefEqProofs [hM,bqL,bqR,bkRow]
   refine c.view (by simp[vwOk,mtA,bkOb];try exact List.take_of_length_le (by simp)) ?_
   simp -implicitDefEqProofs
   exact nx 5 φ (by omega) (by omega) (h3:=by rw[hφ];simp[bqI]) (h4:=by rw[hφ];simp[hM,bqL,bqR,bqI,obOf])
  ·have c:=cm b5 (by simp)
   simp only[bk,decide_true]at c
   simp -implicitDefEqProofs [hM,bqL,bqR,bkRow]
   refine c.view (by simp[vwOk,mtA,bkOb];try exact List.take_of_length_le (by simp)) ?_
   simp -implicitDefEqProofs
   exact nx 6 φ (by omega) (by omega) (h3:=by rw[hφ];simp[bqI]) (h4:=by rw[hφ];simp[hM,bqL,bqR,bqI,obOf])
  ·have c:=cm b6 (by simp)
   simp only[bk,decide_true]at c
   simp -implicitDefEqProofs [hM,bqL,bqR,bkRow]
   refine c.view (by simp[vwOk,mtA,bkOb];try exact List.take_of_length_le (by simp)) ?_
   simp -implicitDefEqProofs
   exact nx 7 φ (by omega) (by omega) (h3:=by rw[hφ];simp[bqI]) (h4:=by rw[hφ];simp[hM,bqL,bqR,bqI,obOf])
  ·simp -implicitDefEqProofs [hM,bqL,bqR]
 ·refine acx func8 [(6,[zI 0,zI 1,zJ 2 [1000] [],zJ 3 [1000] [],zJ 4 [] [1000],zJ 5 [] [1000],zJ 6 [] [1000],zJ 7 [] [1000],zJ 8 [1001,1002,1003,1004,1005,1006,1007,1008] [],zI 9])] ntmps8 rfl rfl rfl ?_ (hL:=hnod)
  simp -implicitDefEqProofs [bqL,bqR]
  simp only[List.length_cons,List.length_nil]at hn
  refine ev_lo (X:=Nat) [0,1,4,5] φ (fun i=>[(5,.int .i64 i)]) (fun _=>Mf) (fun i=>n-i) (fun i=>i≤n) 0 (by omega) ?_ (h0:=by rw[hφ];simp[bqI]) (he:=by rw[hφ];simp[hM,bqL,bqR,bqI,obOf])
  rintro i hi
  rcases nine (show i≤9 by omega)with rfl | rfl | rfl | rfl | rfl | rfl | rfl | rfl | rfl | rfl
  all_goals try (exfalso;omega)
  ·have c:=cm b0 (by simp)
   simp only[bk,decide_true]at c
   simp -implicitDefEqProofs [hM,bqL,bqR,bkRow]
   refine c.view (by simp[vwOk,mtA,bkOb];try exact List.take_of_length_le (by simp)) ?_
   simp -implicitDefEqProofs
   exact nx 1 φ (by omega) (by omega) (h3:=by rw[hφ];simp[bqI]) (h4:=by rw[hφ];simp[hM,bqL,bqR,bqI,obOf])
  ·have c:=cm b1 (by simp)
   simp only[bk,decide_true]at c
   simp -implicitDefEqProofs [hM,bqL,bqR,bkRow]
   refine c.view (by simp[vwOk,mtA,bkOb];try exact List.take_of_length_le (by simp)) ?_
   simp -implicitDefEqProofs
   exact nx 2 φ (by omega) (by omega) (h3:=by rw[hφ];simp[bqI]) (h4:=by rw[hφ];simp[hM,bqL,bqR,bqI,obOf])
  ·have c:=cm b2 (by simp)
   simp only[bk,decide_true]at c
   simp -implicitDefEqProofs [hM,bqL,bqR,bkRow]
   refine c.view (by simp[vwOk,mtA,bkOb];try exact List.take_of_length_le (by simp)) ?_
   simp -implicitDefEqProofs
   exact nx 3 φ (by omega) (by omega) (h3:=by rw[hφ];simp[bqI]) (h4:=by rw[hφ];simp[hM,bqL,bqR,bqI,obOf])
  ·have c:=cm b3 (by simp)
   simp only[bk,decide_true]at c
   simp -implicitDefEqProofs [hM,bqL,bqR,bkRow]
   refine c.view (by simp[vwOk,mtA,bkOb];try exact List.take_of_length_le (by simp)) ?_
   simp -implicitDefEqProofs
   exact nx 4 φ (by omega) (by omega) (h3:=by rw[hφ];simp[bqI]) (h4:=by rw[hφ];simp[hM,bqL,bqR,bqI,obOf])
  ·have c:=cm b4 (by simp)
   simp only[bk,decide_true]at c
   simp -implicitDefEqProofs [hM,bqL,bqR,bkRow]
   refine c.view (by simp[vwOk,mtA,bkOb];try exact List.take_of_length_le (by simp)) ?_
   simp -implicitDefEqProofs
   exact nx 5 φ (by omega) (by omega) (h3:=by rw[hφ];simp[bqI]) (h4:=by rw[hφ];simp[hM,bqL,bqR,bqI,obOf])
  ·have c:=cm b5 (by simp)
   simp only[bk,decide_true]at c
   simp -implicitDefEqProofs [hM,bqL,bqR,bkRow]
   refine c.view (by simp[vwOk,mtA,bkOb];try exact List.take_of_length_le (by simp)) ?_
   simp -implicitDefEqProofs
   exact nx 6 φ (by omega) (by omega) (h3:=by rw[hφ];simp[bqI]) (h4:=by rw[hφ];simp[hM,bqL,bqR,bqI,obOf])
  ·have c:=cm b6 (by simp)
   simp only[bk,decide_true]at c
   simp -implicitDefEqProofs [hM,bqL,bqR,bkRow]
   refine c.view (by simp[vwOk,mtA,bkOb];try exact List.take_of_length_le (by simp)) ?_
   simp -implicitDefEqProofs
   exact nx 7 φ (by omega) (by omega) (h3:=by rw[hφ];simp[bqI]) (h4:=by rw[hφ];simp[hM,bqL,bqR,bqI,obOf])
  ·have c:=cm b7 (by simp)
   simp only[bk,decide_true]at c
   simp -implicitDefEqProofs [hM,bqL,bqR,bkRow]
   refine c.view (by simp[vwOk,mtA,bkOb];try exact List.take_of_length_le (by simp)) ?_
   simp -implicitDefEqProofs
   exact nx 8 φ (by omega) (by omega) (h3:=by rw[hφ];simp[bqI]) (h4:=by rw[hφ];simp[hM,bqL,bqR,bqI,obOf])
  ·simp -implicitDefEqProofs [hM,bqL,bqR]
 ·refine acx func8 [(6,[zI 0,zI 1,zJ 2 [1000] [],zJ 3 [1000] [],zJ 4 [] [1000],zJ 5 [] [1000],zJ 6 [] [1000],zJ 7 [] [1000],zJ 8 [1001,1002,1003,1004,1005,1006,1007,1008,1009] [],zI 9])] ntmps8 rfl rfl rfl ?_ (hL:=hnod)
  simp -implicitDefEqProofs [bqL,bqR]
  simp only[List.length_cons,List.length_nil]at hn
  refine ev_lo (X:=Nat) [0,1,4,5] φ (fun i=>[(5,.int .i64 i)]) (fun _=>Mf) (fun i=>n-i) (fun i=>i≤n) 0 (by omega) ?_ (h0:=by rw[hφ];simp[bqI]) (he:=by rw[hφ];simp[hM,bqL,bqR,bqI,obOf])
  rintro i hi
  rcases nine (show i≤9 by omega)with rfl | rfl | rfl | rfl | rfl | rfl | rfl | rfl | rfl | rfl
  all_goals try (exfalso;omega)
  ·have c:=cm b0 (by simp)
   simp only[bk,decide_true]at c
   simp -implicitDefEqProofs [hM,bqL,bqR,bkRow]
   refine c.view (by simp[vwOk,mtA,bkOb];try exact List.take_of_length_le (by simp)) ?_
   simp -implicitDefEqProofs
   exact nx 1 φ (by omega) (by omega) (h3:=by rw[hφ];simp[bqI]) (h4:=by rw[hφ];simp[hM,bqL,bqR,bqI,obOf])
  ·have c:=cm b1 (by simp)
   simp only[bk,decide_true]at c
   simp -implicitDefEqProofs [hM,bqL,bqR,bkRow]
   refine c.view (by simp[vwOk,mtA,bkOb];try exact List.take_of_length_le (by simp)) ?_
   simp -implicitDefEqProofs
   exact nx 2 φ (by omega) (by omega) (h3:=by rw[hφ];simp[bqI]) (h4:=by rw[hφ];simp[hM,bqL,bqR,bqI,obOf])
  ·have c:=cm b2 (by simp)
   simp only[bk,decide_true]at c
   simp -implicitDefEqProofs [hM,bqL,bqR,bkRow]
   refine c.view (by simp[vwOk,mtA,bkOb];try exact List.take_of_length_le (by simp)) ?_
   simp -implicitDefEqProofs
   exact nx 3 φ (by omega) (by omega) (h3:=by rw[hφ];simp[bqI]) (h4:=by rw[hφ];simp[hM,bqL,bqR,bqI,obOf])
  ·have c:=cm b3 (by simp)
   simp only[bk,decide_true]at c
   simp -implicitDefEqProofs [hM,bqL,bqR,bkRow]
   refine c.view (by simp[vwOk,mtA,bkOb];try exact List.take_of_length_le (by simp)) ?_
   simp -implicitDefEqProofs
   exact nx 4 φ (by omega) (by omega) (h3:=by rw[hφ];simp[bqI]) (h4:=by rw[hφ];simp[hM,bqL,bqR,bqI,obOf])
  ·have c:=cm b4 (by simp)
   simp only[bk,decide_true]at c
   simp -implicitDefEqProofs [hM,bqL,bqR,bkRow]
   refine c.view (by simp[vwOk,mtA,bkOb];try exact List.take_of_length_le (by simp)) ?_
   simp -implicitDefEqProofs
   exact nx 5 φ (by omega) (by omega) (h3:=by rw[hφ];simp[bqI]) (h4:=by rw[hφ];simp[hM,bqL,bqR,bqI,obOf])
  ·have c:=cm b5 (by simp)
   simp only[bk,decide_true]at c
   simp -implicitDefEqProofs [hM,bqL,bqR,bkRow]
   refine c.view (by simp[vwOk,mtA,bkOb];try exact List.take_of_length_le (by simp)) ?_
   simp -implicitDefEqProofs
   exact nx 6 φ (by omega) (by omega) (h3:=by rw[hφ];simp[bqI]) (h4:=by rw[hφ];simp[hM,bqL,bqR,bqI,obOf])
  ·have c:=cm b6 (by simp)
   simp only[bk,decide_true]at c
   simp -implicitDefEqProofs [hM,bqL,bqR,bkRow]
   refine c.view (by simp[vwOk,mtA,bkOb];try exact List.take_of_length_le (by simp)) ?_
   simp -implicitDefEqProofs
   exact nx 7 φ (by omega) (by omega) (h3:=by rw[hφ];simp[bqI]) (h4:=by rw[hφ];simp[hM,bqL,bqR,bqI,obOf])
  ·have c:=cm b7 (by simp)
   simp only[bk,decide_true]at c
   simp -implicitDefEqProofs [hM,bqL,bqR,bkRow]
   refine c.view (by simp[vwOk,mtA,bkOb];try exact List.take_of_length_le (by simp)) ?_
   simp -implicitDefEqProofs
   exact nx 8 φ (by omega) (by omega) (h3:=by rw[hφ];simp[bqI]) (h4:=by rw[hφ];simp[hM,bqL,bqR,bqI,obOf])
  ·have c:=cm b8 (by simp)
   simp only[bk,decide_true]at c
   simp -implicitDefEqProofs [hM,bqL,bqR,bkRow]
   refine c.view (by simp[vwOk,mtA,bkOb];try exact List.take_of_length_le (by simp)) ?_
   simp -implicitDefEqProofs
   exact nx 9 φ (by omega) (by omega) (h3:=by rw[hφ];simp[bqI]) (h4:=by rw[hφ];simp[hM,bqL,bqR,bqI,obOf])
  ·simp -implicitDefEqProofs [hM,bqL,bqR]
end Go.Av.F
end
section
namespace Go.Av.F
open Go Go.Av
open Go.Proofs Go.Proofs.Tryd
attribute [-simp] getU hdS canon qae i64w
attribute [local simp] tt3 tt4 tt9 tt5 tt94 tt33 tt31 tt64 tt62 tt53 tt71 tt34 tt36 tt29
attribute [local simp] bks_sz bks_els renL_bkc take_bks op_len op_take
theorem specDoM (bs:List BS) (o:BO) (hb:BkM bs) (hl:bs.length<1048577) (ho:opS o):ACall prog 34 [bk bs,.agg (BO.row o)] [] (bkP (resB bs o)):=(sdoC' bs o ⟨by omega,hb⟩ ho).c
theorem specOkM (bs:List BS) (hb:BkM bs) (hl:bs.length<1048577):ACall prog 15 [bk bs] [] (fun r L'=>r=.bool (qat bs)∧L'=[]):=(sOkM bs hb (by omega)).c
theorem sbooksM (t:TR) (hg:TrM t) (hy:okT t):ACall prog 16 [.agg t.row] [] (bksP (booksB t)):=by
 have hg0:=hg
 obtain⟨hb,hbl,hs,hsl⟩:=hg
 obtain⟨hok,h8,h0,hle⟩:=id hy
 have h6:=ok_len6 hok
 rw[booksB_acc hy]
 have key:ACall prog 16 [.agg t.row] [] (fun r L'=>r=.sl 4 0 (accT t (t.since.length+1)).length∧L'=[(4,bksOb (accT t (t.since.length+1)))]):=by
  refine acx func16 [(7,[zJ 0 [3] [],zJ 1 [] [3],zJ 2 [1] [3],zJ 3 [] [3,1],zJ 4 [] [3,1],zJ 5 [] [3],zJ 6 [] [3],zI 7,zI 8,zI 9,zI 10,zI 11])] ntmps16 rfl rfl rfl ?_
  simp[TR.row]
  refine qaj (by kernel_rfl) (copyP t.base (by omega)) (by simp[bk]) (by simp[bk]) ?_
  simp[bk]
  refine ev_loopW (X:=Nat) (stSt t) (fun k=>t.since.length+1-k) (fun k=>k≤t.since.length+1) 0 ⟨by simp,?_⟩ ?_
  ·exact sw_can [1,3,4,5] [(1,1),(3,3),(9,4)] (by simp[qae]) (by simp[canon,obOf,stSt,accT,bksOb,TR.row,nth_zero,bkRow])
  intro k hk
  have hal:=accT_len t k
  have hst:=accT_step t k
  have e2:IntKind.i64.wrap ((k:Int)+1)=((k+1:Nat):Int):=by rw[qao _ (by omega)];omega
  have nx:∀ (k:Nat) (o:BO),t.since[k]?=some o→opS o:=fun k o ho=>hs o (List.mem_of_getElem? ho)
  by_cases hkl:k≤t.since.length
  rotate_left
  ·have:k=t.since.length+1:=by omega
   subst this
   have hn:¬ ((t.since.length:Int)+1≤t.since.length):=by omega
   simp[stSt,TR.row,hn]
  have hkl':(k:Int)≤t.since.length:=by omega
  obtain⟨g1,g2⟩:=nth_goodM hg0 k
  obtain⟨p1,p2⟩:=nth_goodM hg0 (k-1)
  have e5:IntKind.i64.wrap 1=1:=by decide
  cases k with
  | zero =>
   by_cases hks:t.sure≤0
   ·rw[if_pos (by omega)]at hst
    simp[stSt,TR.row,hks,bkRow]
    refine qaj (by kernel_rfl) (copyP (nthB t 0) (by omega)) (by simp[bk]) (by simp[bk]) ?_
    simp[bk,e2]
    refine⟨by omega,?_⟩
    exact nextW_of 1 (by omega) (by omega) (sw_can [1,3,4,5] [(1,1),(3,3),(38,4)] (by simp[qae]) (by simp[canon,obOf,stSt,bksOb,TR.row,hst,bkRow,e5]))
   ·rw[if_neg (by omega),List.append_nil]at hst
    simp[stSt,TR.row,hks,bkRow,e2]
    exact nextW_of 1 (by omega) (by omega) (sw_can [1,3,4,5] [(1,1),(3,3),(4,4)] (by simp[qae]) (by simp[canon,obOf,stSt,bksOb,TR.row,hst,bkRow,e5]))
  | succ k =>
   have hlt:k<t.since.length:=by omega
   obtain⟨o,e0⟩:∃ o,t.since[k]=o:=⟨_,rfl⟩
   have e1:t.since[k]?=some o:=by rw[← e0];exact List.getElem?_eq_getElem (by omega)
   have hnx:=nth_step t e1
   have e3:IntKind.i64.wrap ((k:Int)+1-1)=(k:Int):=by rw[qao _ (by omega)];omega
   have e4:IntKind.i64.wrap (k:Int)=(k:Int):=qao _ (by omega)
   have hpos:(0:Int)<(k:Int)+1:=by omega
   have e6:IntKind.i64.wrap ((k:Int)+1+1)=(k:Int)+1+1:=qao _ (by omega)
   have hkl2:(k:Int)+1≤t.since.length:=by omega
   simp only[Nat.add_sub_cancel]at p1 p2
   by_cases hks:t.sure≤(k:Int)+1
   ·rw[if_pos (by omega)]at hst
    simp[stSt,TR.row,bkRow,hpos,hkl2,e3,e4,e0,e1,hlt,hks]
    refine qaj (by kernel_rfl) (specDoM (nthB t k) o p1 (by omega) (nx k o e1)) (by simp[bk,BO.row]) (by simp[bk]) ?_
    simp[bk,← hnx,hks]
    refine qaj (by kernel_rfl) (copyP (nthB t (k+1)) (by omega)) (by simp[bk]) (by simp[bk]) ?_
    simp[bk,e2]
    refine⟨by omega,?_⟩
    exact nextW_of (k+1+1) (by omega) (by omega) (sw_can [1,3,4,5] [(1,1),(3,3),(38,4)] (by simp[qae]) (by simp[canon,obOf,stSt,bksOb,TR.row,hst,bkRow,e6]))
   ·rw[if_neg (by omega),List.append_nil]at hst
    simp[stSt,TR.row,bkRow,hpos,hkl2,e3,e4,e0,e1,hlt,hks]
    refine qaj (by kernel_rfl) (specDoM (nthB t k) o p1 (by omega) (nx k o e1)) (by simp[bk,BO.row]) (by simp[bk]) ?_
    simp[bk,← hnx,hks,e2]
    exact nextW_of (k+1+1) (by omega) (by omega) (sw_can [1,3,4,5] [(1,1),(3,3),(4,4)] (by simp[qae]) (by simp[canon,obOf,stSt,bksOb,TR.row,hst,bkRow,e6]))
 refine key.frz ?_
 rintro r L' ⟨rfl,rfl⟩
 exact⟨_,bksOb _,rfl,clR_bks _,by simp,rfl⟩
theorem strailM (t:TR) (hg:TrM t):ACall prog 5 [.agg t.row] [] (bksP (booksB t)):=by
 have hg0:=hg
 obtain⟨hb,hbl,hs,hsl⟩:=hg
 by_cases hy:okT t
 ·obtain⟨hok,h8,h0,hle⟩:=id hy
  have h8':¬ (8:Int)<t.since.length:=by omega
  have h0':¬ t.sure<0:=by omega
  have hle':¬ (t.since.length:Int)<t.sure:=by omega
  refine acx func5 [] ntmps5 rfl rfl rfl ?_
  simp[TR.row]
  refine qaj (by kernel_rfl) (specOkM t.base hb (by omega)) (by simp[bk]) (by simp) ?_
  simp[hok,h8,h8',h0,h0',hle,hle']
  refine qaj (by kernel_rfl) (sbooksM t hg0 hy) (by simp[TR.row]) (by simp) ?_
  simp[bksP]
 ·have hnil:booksB t=[]:=by
   unfold booksB;rw[if_neg (id hy:¬ (qat t.base=true∧t.since.length≤8∧0≤t.sure∧t.sure≤t.since.length))]
  rw[hnil]
  have key:ACall prog 5 [.agg t.row] [] (fun r L'=>∃ id,r=.sl id 0 0∧L'=[(id,bksOb [])]):=by
   refine acx func5 [] ntmps5 rfl rfl rfl ?_
   simp[TR.row]
   refine qaj (by kernel_rfl) (specOkM t.base hb (by omega)) (by simp[bk]) (by simp) ?_
   cases hok:qat t.base with
   | false=>simp[bksOb]
   | true =>
    by_cases h8:t.since.length≤8
    ·have h8':¬ (8:Int)<t.since.length:=by omega
     by_cases h0:0≤t.sure
     ·have h0':¬ t.sure<0:=by omega
      have hle:(t.since.length:Int)<t.sure:=Int.not_le.1 fun h=>hy ⟨hok,h8,h0,h⟩
      simp[h8,h8',h0,h0',hle,bksOb]
     ·have h0':t.sure<0:=by omega
      simp[h8,h8',h0,h0',bksOb]
    ·have h8':(8:Int)<t.since.length:=by omega
     simp[h8,h8',bksOb]
  refine key.frz ?_
  rintro r L' ⟨id,rfl,rfl⟩
  exact⟨id,bksOb [],rfl,rfl,by simp[bksOb],rfl⟩
end Go.Av.F
end
section
namespace Go.Av.F
open Go Go.Av Go.Proofs Go.Proofs.Tryd
def OpM (o:BO):Prop:=o.a.length≤maxLen∧o.b.length≤maxLen∧o.text.length≤maxLen
def szO (o:BO) (l:Int):Int:=szSs [o.a,o.b,o.text] l
def szOs:List BO→Int→Int
 | [],l=>l
 | o::r,l=>if szO o l<0 then -1 else szOs r (szO o l)
theorem szO_le (o:BO) (l:Int) (h:0≤l∧l≤1048576):szO o l≤l∧-1≤szO o l∧(0≤szO o l→opS o):=by
 obtain⟨h1,h2,h3⟩:=szSs_le [o.a,o.b,o.text] l h.1
 refine⟨h1,h2,fun hz=>?_⟩
 have g1:=h3 hz o.a (by simp)
 have g2:=h3 hz o.b (by simp)
 exact⟨by omega,by omega⟩
theorem szOs_le:∀ (os:List BO) (l:Int),0≤l∧l≤1048576→szOs os l≤l∧-1≤szOs os l∧(0≤szOs os l→∀ o∈os,opS o)
 | [],l,h=>by simp[szOs];omega
 | o::r,l,h=>by
  unfold szOs
  obtain⟨g1,g2,g3⟩:=szO_le o l h
  split
  ·exact⟨by omega,by omega,fun h'=>by omega⟩
  ·obtain⟨h1,h2,h3⟩:=szOs_le r (szO o l) (by omega)
   refine⟨by omega,h2,fun h' t' ht=>?_⟩
   rcases List.mem_cons.1 ht with rfl | ht
   ·exact g3 (by omega)
   ·exact h3 h' t' ht
theorem szO_C (o:BO) (l:Int) (hl:0≤l∧l≤1048576) (ho:OpM o):CV prog 30 [.agg (BO.row o),.int .i64 l] (.int .i64 (szO o l)):=by
 have h1:=ho.1
 have h2:=ho.2.1
 have h3:=ho.2.2
 have hml:maxLen=9223372036854775807:=rfl
 refine cvx func30 [] ntmps30 rfl rfl rfl ?_ (hca:=by simp[BO.row])
 have e1:=i64w (l-(o.a.length:Int)) (by omega) (by omega)
 simp only[szO,szSs]
 split
 ·simp -implicitDefEqProofs [BO.row,e1]
  intros
  omega
 ·have e2:=i64w (l-o.a.length-(o.b.length:Int)) (by omega) (by omega)
  split
  ·simp -implicitDefEqProofs [BO.row,e1,e2]
   intros
   omega
  ·have e3:=i64w (l-o.a.length-o.b.length-(o.text.length:Int)) (by omega) (by omega)
   split
   ·simp -implicitDefEqProofs [BO.row,e1,e2,e3]
    intros
    omega
   ·simp -implicitDefEqProofs [BO.row,e1,e2,e3]
    intros
    omega
theorem szOs_C (os:List BO) (l:Int) (ho:∀ o∈os,OpM o) (hol:os.length≤maxLen) (hl:0≤l∧l≤1048576):CV prog 14 [.lst 5 (os.map BO.row),.int .i64 l] (.int .i64 (if l-os.length<0 then -1 else szOs os (l-os.length))):=by
 have hml:maxLen=9223372036854775807:=rfl
 have e1:=i64w (l-(os.length:Int)) (by omega) (by omega)
 refine cvx func14 [] ntmps14 rfl rfl rfl ?_ (hca:=by simp[BO.row])
 by_cases h0:l-os.length<0
 ·rw[if_pos h0]
  simp -implicitDefEqProofs [e1]
  intro h
  omega
 rw[if_neg h0]
 obtain⟨R,hR⟩:∃ R,szOs os (l-os.length)=R:=⟨_,rfl⟩
 rw[hR]
 have h0':¬ (l:Int)<os.length:=by omega
 simp -implicitDefEqProofs [e1,h0']
 refine⟨fun h=>by omega,fun _=>?_⟩
 refine ev_lp (X:=Nat×Int) [0,1,5] [] (fun x=>[(5,.int .i64 x.1),(1,.int .i64 x.2)]) (fun _=>[]) (fun x=>os.length-x.1) (fun x=>x.1≤os.length∧0≤x.2∧x.2≤1048576∧szOs (os.drop x.1) x.2=R) (0,l-os.length) (by simp[hR];omega) ?_
 rintro⟨i,k⟩ ⟨hi,hk0,hk,hd⟩
 simp only at hi hk0 hk hd
 cases hr:os.drop i with
 | nil =>
  have:=dropn hr
  rw[hr]at hd
  have hie:i=os.length:=by omega
  simp[szOs]at hd
  simp -implicitDefEqProofs [hie,hd]
 | cons b r =>
  obtain⟨h1,f0,f1,h3⟩:=dropc hr
  rw[hr,szOs]at hd
  have hb1:=ho b (List.mem_of_getElem? f1)
  have hz:=szO_le b k ⟨hk0,hk⟩
  have e2:=i64w ((i:Int)+1) (by omega) (by omega)
  simp -implicitDefEqProofs [h1,f0,f1,e2,BO.row]
  refine(szO_C b k ⟨hk0,hk⟩ hb1).call ?_
  simp -implicitDefEqProofs
  repeat' first
   | with_reducible intro _
   | with_reducible refine And.intro ?_ ?_
  all_goals first
   | exact nx (i+1,szO b k) [] (by simp only;grind) (h4:=by simp[e2])
   | grind
structure TrW (t:TR):Prop where
 b:∀ b∈t.base,BsG b
 bl:t.base.length≤maxLen
 o:∀ o∈t.since,OpM o
 ol:t.since.length≤maxLen
theorem szTrC (t:TR) (ht:TrW t):∃ z:Int,(0≤z→TrM t)∧CV prog 4 [.agg t.row,.int .i64 1048576] (.int .i64 z):=by
 obtain⟨z,z1,z2,z3⟩:=szBookC t.base ht.b ht.bl
 simp only[bk]at z3
 by_cases hz:z<0
 ·refine⟨-1,fun h=>by omega,?_⟩
  refine cvx func4 [] ntmps4 rfl rfl rfl ?_ (hca:=by simp[TR.row,BO.row])
  simp -implicitDefEqProofs [TR.row]
  refine z3.call ?_
  simp -implicitDefEqProofs [hz]
 ·have hB:=z2 (by omega)
  have c:=szOs_C t.since z ht.o ht.ol ⟨by omega,by omega⟩
  obtain⟨y,hy⟩:∃ y,(if z-(t.since.length:Int)<0 then -1 else szOs t.since (z-t.since.length))=y:=⟨_,rfl⟩
  rw[hy]at c
  have hyy:-1≤y∧(0≤y→t.since.length≤1048576∧∀ o∈t.since,opS o):=by
   split at hy
   ·exact⟨by omega,fun h=>by omega⟩
   ·obtain⟨h1,h2,h3⟩:=szOs_le t.since (z-t.since.length) ⟨by omega,by omega⟩
    exact⟨by omega,fun h=>⟨by omega,h3 (by omega)⟩⟩
  refine⟨y,fun h=>⟨hB.2,hB.1,(hyy.2 h).2,(hyy.2 h).1⟩,?_⟩
  refine cvx func4 [] ntmps4 rfl rfl rfl ?_ (hca:=by simp[TR.row,BO.row])
  simp -implicitDefEqProofs [TR.row]
  refine z3.call ?_
  simp -implicitDefEqProofs [hz]
  refine c.call ?_
  simp -implicitDefEqProofs
  intros
  omega
theorem tfill_step {α:Type} {l cs:List α} {i:Nat} {b:α} (h:l[i]?=some b) (hi:i<cs.length) (hm:∀ j,j<i→cs[j]?=l[j]?):∀ j,j<i+1→(cs.set i b)[j]?=l[j]?:=fun j hj=>by
 by_cases hji:j=i
 ·subst hji
  rw[List.getElem?_set_self hi,h]
 ·rw[List.getElem?_set_ne (Ne.symm hji)]
  exact hm j (by omega)
theorem tfill_end {α:Type} {l cs:List α} (h:cs.length=l.length) (hm:∀ j,j<l.length→cs[j]?=l[j]?):cs=l:=by
 refine List.ext_getElem? fun q=>?_
 by_cases hq:q<l.length
 ·exact hm q hq
 ·rw[List.getElem?_eq_none (by omega),List.getElem?_eq_none (by omega)]
theorem toOpsO (l:List BO) (hl:l.length≤2000000):ACall prog 18 [.lst 5 (l.map BO.row)] [] (fun r L'=>r=.sl 900 0 l.length∧L'=[(900,opsOb l)]):=by
 refine acx func18 [] ntmps18 rfl rfl rfl ?_
 simp -implicitDefEqProofs
 refine⟨by omega,?_⟩
 refine ev_lp (X:=Nat×List BO) [0,3,4] [(7,900)] (fun x=>[(4,.int .i64 x.1)]) (fun x=>[(900,opsOb x.2)]) (fun x=>l.length-x.1)
  (fun x=>x.1≤l.length∧x.2.length=l.length∧∀ j,j<x.1→x.2[j]?=l[j]?) (0,List.replicate l.length ⟨0,[],[],0,[]⟩) ⟨by omega,by simp,by omega⟩ ?_ (he:=by simp[obOf,opsOb,BO.row])
 rintro⟨i,cs⟩ ⟨hi,hc,hm⟩
 simp only at hi hc hm
 by_cases h2:i<l.length
 ·obtain⟨b,f1⟩:∃ b,l[i]?=some b:=⟨_,List.getElem?_eq_getElem (by omega)⟩
  have h2':(i:Int)<l.length:=by omega
  have hil:i<cs.length:=by omega
  have f0:l[i]=b:=(List.getElem?_eq_some_iff.1 f1).2
  have e1:=i64w ((i:Int)+1) (by omega) (by omega)
  have c1:=toOpC b
  simp only[BO.row]at c1
  simp -implicitDefEqProofs [h2',h2,hil,f0,f1,BO.row,opsOb,hc]
  refine c1.call ?_
  simp -implicitDefEqProofs [h2',h2,hil,f0,f1,BO.row,opsOb,hc]
  exact nx (i+1,cs.set i b) [(900,900)] ⟨by simp only;omega,by simp[hc],tfill_step f1 hil hm⟩ (by simp only;omega) (h4:=by simp[obOf,e1,opsOb,List.map_set,BO.row,qbt])
 ·have hie:i=l.length:=by omega
  subst hie
  have:=tfill_end hc hm
  subst this
  simp -implicitDefEqProofs
theorem toTrO (t:TR) (h:TrM t):ACall prog 6 [.agg t.row] [] (fun r L'=>r=.agg [.sl 901 0 t.base.length,.sl 902 0 t.since.length,.int .i64 t.sure]∧L'=[(901,bkOb t.base),(902,opsOb t.since)]):=by
 obtain⟨hb,hbl,ho,hol⟩:=h
 have c1:=toBookO t.base (by omega) (fun b hm=>(hb b hm).1)
 have c2:=toOpsO t.since (by omega)
 simp only[bk]at c1
 refine acx func6 [] ntmps6 rfl rfl rfl ?_
 simp -implicitDefEqProofs [TR.row]
 refine qad [] (by kernel_rfl) c1 (by simp) (by simp) trivial (by simp) (by simp) ?_
 rintro r L' ⟨rfl,rfl⟩
 refine⟨[(900,901)],⟨by simp,by simp,by simp,by simp,by simp⟩,?_⟩
 simp only[qaf]
 simp -implicitDefEqProofs
 refine qad [] (by kernel_rfl) c2 (by simp[BO.row]) (by simp) trivial (by simp) (by simp) ?_
 rintro r L' ⟨rfl,rfl⟩
 refine⟨[(900,902)],⟨by simp,by simp,by simp,by simp,by simp⟩,?_⟩
 simp only[qaf]
 simp -implicitDefEqProofs
 simp[opsOb,renOb,qbt]
theorem markTrO (bs:List BS) (os:List BO) (z:Int) (hB:∀ b∈bs,b.bl.length=8) (h1:bs.length≤2000000) (h2:os.length≤2000000) :
  ACall prog 10 [.agg [.sl 1000 0 bs.length,.sl 1001 0 os.length,.int .i64 z],.int .i64 1] [(1000,bkOb bs),(1001,opsOb os)] (fun r L'=>r=.int .i64 (1+11 * (bs.length:Int)+5 * (os.length:Int))∧L'=[(1000,bkOb (mkLk 1 bs.length)),(1001,opsOb (mkOpsK (1+11 * bs.length) os.length))]):=by
 have c1:=markBookK bs 1 (by omega) h1 hB
 have c2:=markOpsK os (1+11 * bs.length) (by omega) h2
 simp only[Int.natCast_add,Int.natCast_mul,Int.cast_ofNat_Int,Int.natCast_one]at c1 c2
 refine acx func10 [] ntmps10 rfl rfl rfl ?_
 simp -implicitDefEqProofs
 refine qad [(1000,.whole 1000)] (by kernel_rfl) c1 (by simp) (by simp) ⟨⟨bkOb bs,by simp,rfl,qac rfl (clR_bk bs)⟩,trivial⟩ (by simp) (by simp) ?_
 rintro r L' ⟨rfl,rfl⟩
 refine⟨[],⟨by simp,by simp,by simp,by simp,by simp⟩,?_⟩
 simp only[qaf]
 simp -implicitDefEqProofs
 refine qad [(1000,.whole 1001)] (by kernel_rfl) c2 (by simp) (by simp) (by simp[opsOb];exact qac rfl (by simp[BO.row])) (by simp) (by simp) ?_
 rintro r L' ⟨rfl,rfl⟩
 refine⟨[],⟨by simp,by simp,by simp,by simp,by simp⟩,?_⟩
 simp only[qaf]
 simp -implicitDefEqProofs
 simp[opsOb,renOb,qbt]
theorem eqTrR (t:TR) (h:TrM t):CV prog 9 [.agg t.row,.agg t.row] (.bool true):=by
 obtain⟨hb,hbl,ho,hol⟩:=h
 have c1:=eqBookC t.base t.base (by omega) (fun b hm=>(hb b hm).1) (fun b hm=>(hb b hm).1)
 have c2:=eqOpsC t.since t.since (by omega)
 simp only[bk,decide_true]at c1 c2
 refine cvx func9 [] ntmps9 rfl rfl rfl ?_ (hca:=by simp[TR.row,BO.row])
 simp -implicitDefEqProofs [TR.row]
 refine c1.call ?_
 simp -implicitDefEqProofs
 refine c2.call ?_
 simp -implicitDefEqProofs
def bqP:Nat→Nat→List (List BS)→List (Nat×Plc)
 | _,_,[]=>[]
 | a,n,_::r=>(a,.whole n)::bqP (a+1) (n+1) r
def bqJ:Nat→Nat→List (List BS)→List (Nat×Nat)
 | _,_,[]=>[]
 | a,n,_::r=>(a,n)::bqJ (a+1) (n+1) r
theorem clL_opr (o:BO):clL (BO.row o)=true:=by simp[BO.row]
@[simp] theorem renOb_opsT (ρ:Nat→Option Plc) (l:List BO):renOb ρ (opsOb l)=opsOb l:=by simp[renOb,opsOb,qbt]
theorem toTrC (t:TR) (h:TrM t):CV prog 6 [.agg t.row] (.agg t.row):=by
 refine CV.of_frz (toTrO t h) ?_ (hca:=by simp[TR.row,BO.row]) (hcv:=by simp[TR.row,BO.row])
 rintro r L' ⟨rfl,rfl⟩
 refine⟨by simp,by simp,fun x hx=>?_,?_⟩
 ·simp only[List.mem_cons,List.not_mem_nil,or_false]at hx
  rcases hx with rfl | rfl
  ·exact clR_bk _
  ·simp[opsOb,BO.row,clR]
 ·have ts:List.take t.since.length (List.map BO.row t.since)=List.map BO.row t.since:=List.take_of_length_le (by simp)
  simp[frzAll,bkOb,opsOb,TR.row,ts]
  exact impA_refl _
theorem strC (t:TR) (h:TrM t):CV prog 5 [.agg t.row] (.lst 1 ((booksB t).map bkRow)):=cv_of (strailM t h) (hca:=by simp[TR.row,BO.row]) (hcv:=by simpa [clA]using clR_bks _)
theorem itrailNot0 (t:TR) (hg:TrM t) (hy:¬ okT t):ACall prog 7 [.agg t.row] [] (fun r L'=>r=.nils∧L'=[]):=by
 have c1:=iOkM t.base hg.1 hg.2.1
 have c2:=cv_of (withinC t.sure 0 t.since.length)
 simp only[bk]at c1
 refine acx func7 [(11,[zJ 0 [3] [],zJ 1 [] [3],zJ 2 [1] [3],zJ 3 [] [3,1],zJ 4 [] [3],zJ 5 [] [3],zI 6,zI 7,zI 8,zI 9,zI 10])] ntmps7 rfl rfl rfl ?_
 simp -implicitDefEqProofs [TR.row]
 refine c1.call ?_
 cases hok:qat t.base with
 | false =>
  simp -implicitDefEqProofs
 | true =>
  by_cases h8:t.since.length≤8
  ·have h8':¬ (8:Int)<t.since.length:=by omega
   have hf:(decide (0≤t.sure) && decide (t.sure≤(t.since.length:Int)))=false:=by
    rw[Bool.and_eq_false_iff,decide_eq_false_iff_not,decide_eq_false_iff_not]
    apply Classical.byContradiction
    intro h
    exact hy ⟨hok,h8,by omega,by omega⟩
   rw[hf]at c2
   simp -implicitDefEqProofs [h8,h8']
   refine c2.call ?_
   simp -implicitDefEqProofs
  ·have h8':(8:Int)<t.since.length:=by omega
   simp -implicitDefEqProofs [h8,h8']
theorem eqNone:CV prog 8 [.lst 1 [],.lst 1 []] (.bool true):=by
 refine cvx func8 [] ntmps8 rfl rfl rfl ?_
 simp -implicitDefEqProofs
 refine ev_lo (X:=Unit) [0,1,4,5] [] (fun _=>[(5,.int .i64 0)]) (fun _=>[]) (fun _=>0) (fun _=>True) () trivial ?_ (he:=by simp[obOf])
 rintro⟨⟩ -
 simp -implicitDefEqProofs
theorem markNone:CV prog 11 [.lst 1 [],.int .i64 1] (.int .i64 1):=by
 refine cvx func11 [] ntmps11 rfl rfl rfl ?_
 simp -implicitDefEqProofs
 refine ev_lo (X:=Unit) [0,1,5] [] (fun _=>[(5,.int .i64 0),(1,.int .i64 1)]) (fun _=>[]) (fun _=>0) (fun _=>True) () trivial ?_ (he:=by simp[obOf])
 rintro⟨⟩ -
 simp -implicitDefEqProofs
theorem heldNone:CV prog 12 [.lst 1 [],.int .i64 1] (.int .i64 1):=by
 refine cvx func12 [] ntmps12 rfl rfl rfl ?_
 simp -implicitDefEqProofs
 refine ev_lo (X:=Unit) [0,1,5] [] (fun _=>[(5,.int .i64 0),(1,.int .i64 1)]) (fun _=>[]) (fun _=>0) (fun _=>True) () trivial ?_ (he:=by simp[obOf])
 rintro⟨⟩ -
 simp -implicitDefEqProofs
theorem books_ok {t:TR} (hg:TrM t) (hy:okT t):(booksB t).length≤9∧∀ b∈booksB t,b.length≤100∧∀ x∈b,x.bl.length=8:=by
 obtain⟨hok,h8,h0,hle⟩:=id hy
 have h6:=ok_len6 hok
 rw[booksB_acc hy]
 refine⟨?_,fun b hb=>?_⟩
 ·have:=accT_len t (t.since.length+1)
  omega
 ·unfold accT at hb
  obtain⟨i,hi,rfl⟩:=List.mem_map.1 hb
  obtain⟨g1,g2⟩:=nth_goodM hg (t.sure.toNat+i)
  have:=List.mem_range.1 hi
  exact⟨by omega,fun x hx=>(g1 x hx).1⟩
theorem boN_shp {n:Nat} {avs:List AV} (h:Shp prog (n+2) 61 avs):∃ o:BO,OpM o∧avs=BO.row o:=by
 obtain⟨a1,b1,rfl,h1,a2,b2,rfl,h2,a3,b3,rfl,h3,a4,b4,rfl,h4,a5,b5,rfl,h5,rfl⟩:=shp_struct underlying61 h
 obtain⟨z1,g1,rfl⟩:=shp_i64 h1
 obtain⟨s2,m2,rfl⟩:=shp_string underlying9 h2
 obtain⟨s3,m3,rfl⟩:=shp_string underlying9 h3
 obtain⟨z4,g4,rfl⟩:=shp_i64 h4
 obtain⟨s5,m5,rfl⟩:=shp_string underlying9 h5
 exact⟨⟨z1,s2,s3,z4,s5⟩,⟨m2,m3,m5⟩,rfl⟩
theorem tr_shp {avs:List AV} (h:Shp prog 9 27 avs):∃ t:TR,TrW t∧avs=t.row:=by
 obtain⟨a1,b1,rfl,h1,a2,b2,rfl,h2,a3,b3,rfl,h3,rfl⟩:=shp_struct underlying27 h
 obtain⟨b,gb,rfl⟩:=bk_shp h1
 obtain⟨e2,m2,rfl,k2⟩:=shp_slice underlying25 h2
 obtain⟨l2,rfl,g2⟩:=rows_ex BO.row OpM e2 fun r hr=>boN_shp (n:=5) (k2 r hr)
 obtain⟨z,gz,rfl⟩:=shp_i64 h3
 have c1:prog.cellsOf 61=5:=by kernel_rfl
 rw[c1]
 exact⟨⟨b.sets,l2,z⟩,⟨gb.1,gb.2,g2,by simpa using m2⟩,rfl⟩
set_option maxHeartbeats 8000000 in
theorem lawTrailBooks (t:TR) (ht:TrW t):CV prog 3 [.agg t.row] (.bool true):=by
  obtain⟨z,z1,c0⟩:=szTrC t ht
  refine cvx func3 [(10,[zJ 0 [5] [],zJ 1 [1] [5],zJ 2 [] [5],zJ 3 [901,902] [],zI 4])] ntmps3 rfl rfl rfl ?_ (hca:=by simp[TR.row,BO.row])
  simp only[TR.row]at c0
  simp -implicitDefEqProofs [TR.row]
  refine c0.call ?_
  by_cases hz:z<0
  · simp -implicitDefEqProofs [hz]
  have hg:=z1 (by omega)
  simp -implicitDefEqProofs [hz]
  have c1:=toTrC t hg
  have c2:=strC t hg
  have c3:=toTrO t hg
  have c5:=eqTrR t hg
  have c8:=markTrO t.base t.since t.sure (fun b hm=>(hg.1 b hm).1) (by have:=hg.2.1;omega) (by have:=hg.2.2.2;omega)
  have hne:¬ (1+11 * (t.base.length:Int)+5 * (t.since.length:Int))<0:=by omega
  have tb:List.take t.base.length (List.map BS.row t.base)=List.map BS.row t.base:=List.take_of_length_le (by simp)
  have ts:List.take t.since.length (List.map BO.row t.since)=List.map BO.row t.since:=List.take_of_length_le (by simp)
  by_cases hy:okT t
  rotate_left
  · have c6:=itrailNot0 t hg hy
    have hn:=trailNot hy
    rw[hn]at c2
    simp only[TR.row,List.map_nil]at c1 c2 c3 c5 c6
    refine c1.call ?_
    simp -implicitDefEqProofs
    refine c2.call ?_
    simp -implicitDefEqProofs
    refine qad [] (by kernel_rfl) c3 (by simp[BO.row]) (by simp) trivial (by simp) (by simp) ?_
    rintro r L' ⟨rfl,rfl⟩
    refine⟨[(901,901),(902,902)],⟨by simp,by simp,by simp,by simp,by simp⟩,?_⟩
    simp only[qaf]
    simp -implicitDefEqProofs
    refine callA_vw [] (by kernel_rfl) c6 (by simp[vwOk,mtA,bkOb,opsOb,tb,ts,clL_opr,qbt]) (by simp) trivial (by simp) (by simp) ?_
    rintro r L' ⟨rfl,rfl⟩
    refine⟨by simp[noA],by simp,[],⟨by simp,by simp,by simp,by simp,by simp⟩,?_⟩
    simp only[qaf]
    simp -implicitDefEqProofs
    refine eqNone.view (by simp[vwOk,mtA]) ?_
    simp -implicitDefEqProofs
    refine c1.call ?_
    simp -implicitDefEqProofs
    refine c5.view (by simp[vwOk,mtA,bkOb,opsOb,tb,ts,clL_opr,qbt]) ?_
    simp -implicitDefEqProofs
    refine qad [(1000,.whole 901),(1001,.whole 902)] (by kernel_rfl) c8 (by simp) (by simp) ⟨⟨bkOb t.base,by simp,rfl,qac rfl (clR_bk _)⟩,⟨opsOb t.since,by simp,rfl,qac rfl (by simp[opsOb,BO.row,clR])⟩,trivial⟩ (by simp) (by simp) ?_
    rintro r L' ⟨rfl,rfl⟩
    refine⟨[],⟨by simp,by simp,by simp,by simp,by simp⟩,?_⟩
    simp only[qaf]
    simp -implicitDefEqProofs [hne]
    refine eqNone.view (by simp[vwOk,mtA]) ?_
    simp -implicitDefEqProofs
    refine markNone.view (by simp[vwOk,mtA]) ?_
    simp -implicitDefEqProofs
    refine heldNone.view (by simp[vwOk,mtA]) ?_
    simp -implicitDefEqProofs
    refine c1.call ?_
    simp -implicitDefEqProofs
    refine qad [] (by kernel_rfl) c6 (by simp[BO.row]) (by simp) trivial (by simp) (by simp) ?_
    rintro r L' ⟨rfl,rfl⟩
    refine⟨[],⟨by simp,by simp,by simp,by simp,by simp⟩,?_⟩
    simp only[qaf]
    simp -implicitDefEqProofs
    refine eqNone.view (by simp[vwOk,mtA]) ?_
    simp -implicitDefEqProofs
    refine heldNone.view (by simp[vwOk,mtA]) ?_
    simp -implicitDefEqProofs
  · obtain⟨h9,hL⟩:=books_ok hg hy
    have c6:=itrail9 t hg hy
    generalize booksB t=l at *
    have c7:=eqBksO l h9 hL
    have c9:=markBksO l 1 h9 (by omega) hL
    have cA:=heldBksO l 1 h9 (by omega) fun b hb=>(hL b hb).1
    obtain⟨N,hN⟩:∃ N,kAt l.length 1 l=N:=⟨_,rfl⟩
    rw[hN]at c9 cA
    have hNN:¬ (N:Int)<0:=by omega
    obtain⟨φ,hφ⟩:∃ φ,φ=(900,900)::bqI 2000 l:=⟨_,rfl⟩
    obtain⟨ψ,hψ⟩:∃ ψ,ψ=(900,960)::bqJ 2000 2100 l:=⟨_,rfl⟩
    obtain⟨pl,hpl⟩:∃ pl,pl=(1000,Plc.whole 900)::bqP 1001 2000 l:=⟨_,rfl⟩
    obtain⟨pk,hpk⟩:∃ pk,pk=(1000,Plc.whole 960)::bqP 1001 2100 l:=⟨_,rfl⟩
    simp only[TR.row,trQ9,Int.natCast_one]at c1 c2 c3 c5 c6 c9 cA
    refine c1.call ?_
    simp -implicitDefEqProofs
    refine c2.call ?_
    simp -implicitDefEqProofs
    refine qad [] (by kernel_rfl) c3 (by simp[BO.row]) (by simp) trivial (by simp) (by simp) ?_
    rintro r L' ⟨rfl,rfl⟩
    refine⟨[(901,901),(902,902)],⟨by simp,by simp,by simp,by simp,by simp⟩,?_⟩
    simp only[qaf]
    simp -implicitDefEqProofs
    refine callA_vw [] (by kernel_rfl) c6 (by simp[vwOk,mtA,bkOb,opsOb,tb,ts,clL_opr,qbt]) (by simp) trivial (by simp) (by simp) ?_
    rintro r L' ⟨rfl,rfl⟩
    rcases upto9 l h9 with rfl | ⟨b0,rfl⟩ | ⟨b0,b1,rfl⟩ | ⟨b0,b1,b2,rfl⟩ | ⟨b0,b1,b2,b3,rfl⟩ | ⟨b0,b1,b2,b3,b4,rfl⟩ | ⟨b0,b1,b2,b3,b4,b5,rfl⟩ | ⟨b0,b1,b2,b3,b4,b5,b6,rfl⟩ | ⟨b0,b1,b2,b3,b4,b5,b6,b7,rfl⟩ | ⟨b0,b1,b2,b3,b4,b5,b6,b7,b8,rfl⟩
    all_goals
      refine⟨by simp[noA],by simp[bqR,bqL,noL,noA,bkOb,noL_bs],φ,⟨by simp[bqL],by rw[hφ];simp[bqI],by rw[hφ];simp[bqI],by rw[hφ];simp[bqI,bqL],by simp⟩,?_⟩
      simp only[qaf]
      simp -implicitDefEqProofs [hφ,bqI,bqL,bqR]
      refine qad pl (by kernel_rfl) c7 (by rw[hpl];simp[bqP,bkRow]) (by rw[hpl];simp[bqP]) ?_ (by rw[hpl];simp[bqP,bqL,mkTo]) (by rw[hpl];simp[bqP]) ?_
      · rw[hpl]
        simp[bqP,bqL,bqR,mkTo,qaa]
        try (repeat' apply And.intro
             all_goals first | exact qac rfl (qcg _) | exact .inl (.inr (by simp[mtRs])))
      rintro r L' ⟨rfl,rfl⟩
      refine⟨[],⟨by simp[bqL,mkTo],by simp,by simp,by rw[hpl];simp[bqP,bqL,mkTo],by rw[hpl];simp[bqP]⟩,?_⟩
      simp only[qaf]
      simp -implicitDefEqProofs [hpl,bqP,bqL,bqR,mkTo,qaa]
      refine c1.call ?_
      simp -implicitDefEqProofs
      refine c5.view (by simp[vwOk,mtA,bkOb,opsOb,tb,ts,clL_opr,qbt]) ?_
      simp -implicitDefEqProofs
      refine qad [(1000,.whole 901),(1001,.whole 902)] (by kernel_rfl) c8 (by simp) (by simp) ⟨⟨bkOb t.base,by simp,rfl,qac rfl (clR_bk _)⟩,⟨opsOb t.since,by simp,rfl,qac rfl (by simp[opsOb,BO.row,clR])⟩,trivial⟩ (by simp) (by simp) ?_
      rintro r L' ⟨rfl,rfl⟩
      refine⟨[],⟨by simp,by simp,by simp,by simp,by simp⟩,?_⟩
      simp only[qaf]
      simp -implicitDefEqProofs [hne]
      refine qad pl (by kernel_rfl) c7 (by rw[hpl];simp[bqP,bkRow]) (by rw[hpl];simp[bqP]) ?_ (by rw[hpl];simp[bqP,bqL,mkTo]) (by rw[hpl];simp[bqP]) ?_
      · rw[hpl]
        simp[bqP,bqL,bqR,mkTo,qaa]
        try (repeat' apply And.intro
             all_goals first | exact qac rfl (qcg _) | exact .inl (.inr (by simp[mtRs])))
      rintro r L' ⟨rfl,rfl⟩
      refine⟨[],⟨by simp[bqL,mkTo],by simp,by simp,by rw[hpl];simp[bqP,bqL,mkTo],by rw[hpl];simp[bqP]⟩,?_⟩
      simp only[qaf]
      simp -implicitDefEqProofs [hpl,bqP,bqL,bqR,mkTo,qaa]
      refine qad pl (by kernel_rfl) c9 (by rw[hpl];simp[bqP,bkRow]) (by rw[hpl];simp[bqP]) ?_ (by rw[hpl];simp[bqP,bqL,mkTo]) (by rw[hpl];simp[bqP]) ?_
      · rw[hpl]
        simp[bqP,bqL,bqR,mkTo,qaa]
        try (repeat' apply And.intro
             all_goals first | exact qac rfl (qcg _) | exact .inl (.inr (by simp[mtRs])))
      rintro r L' ⟨rfl,rfl⟩
      refine⟨[],⟨by simp[bqL,mkTo],by simp,by simp,by rw[hpl];simp[bqP,bqL,mkTo],by rw[hpl];simp[bqP]⟩,?_⟩
      simp only[qaf]
      simp -implicitDefEqProofs [hpl,bqP,bqL,bqR,mkTo,qaa]
      refine qad pl (by kernel_rfl) cA (by rw[hpl];simp[bqP,bkRow]) (by rw[hpl];simp[bqP]) ?_ (by rw[hpl];simp[bqP,bqL,mkTo]) (by rw[hpl];simp[bqP]) ?_
      · rw[hpl]
        simp[bqP,bqL,bqR,mkTo,qaa]
        try (repeat' apply And.intro
             all_goals first | exact qac rfl (qcg _) | exact .inl (.inr (by simp[mtRs])))
      rintro r L' ⟨rfl,rfl⟩
      refine⟨[],⟨by simp[bqL,mkTo],by simp,by simp,by rw[hpl];simp[bqP,bqL,mkTo],by rw[hpl];simp[bqP]⟩,?_⟩
      simp only[qaf]
      simp -implicitDefEqProofs [hpl,bqP,bqL,bqR,mkTo,qaa,hNN]
      refine c1.call ?_
      simp -implicitDefEqProofs
      refine qad [] (by kernel_rfl) c6 (by simp[BO.row]) (by simp) trivial (by simp) (by simp) ?_
      rintro r L' ⟨rfl,rfl⟩
      refine⟨ψ,⟨by simp[bqL],by rw[hψ];simp[bqJ],by rw[hψ];simp[bqJ],by rw[hψ];simp[bqJ,bqL],by simp⟩,?_⟩
      simp only[qaf]
      simp -implicitDefEqProofs [hψ,bqJ,bqL,bqR]
      refine qad pk (by kernel_rfl) c7 (by rw[hpk];simp[bqP,bkRow]) (by rw[hpk];simp[bqP]) ?_ (by rw[hpk];simp[bqP,bqL,mkTo]) (by rw[hpk];simp[bqP]) ?_
      · rw[hpk]
        simp[bqP,bqL,bqR,mkTo,qaa]
        try (repeat' apply And.intro
             all_goals first | exact qac rfl (qcg _) | exact .inl (.inr (by simp[mtRs])))
      rintro r L' ⟨rfl,rfl⟩
      refine⟨[],⟨by simp[bqL,mkTo],by simp,by simp,by rw[hpk];simp[bqP,bqL,mkTo],by rw[hpk];simp[bqP]⟩,?_⟩
      simp only[qaf]
      simp -implicitDefEqProofs [hpk,bqP,bqL,bqR,mkTo,qaa]
      refine qad pl (by kernel_rfl) cA (by rw[hpl];simp[bqP,bkRow]) (by rw[hpl];simp[bqP]) ?_ (by rw[hpl];simp[bqP,bqL,mkTo]) (by rw[hpl];simp[bqP]) ?_
      · rw[hpl]
        simp[bqP,bqL,bqR,mkTo,qaa]
        try (repeat' apply And.intro
             all_goals first | exact qac rfl (qcg _) | exact .inl (.inr (by simp[mtRs])))
      rintro r L' ⟨rfl,rfl⟩
      refine⟨[],⟨by simp[bqL,mkTo],by simp,by simp,by rw[hpl];simp[bqP,bqL,mkTo],by rw[hpl];simp[bqP]⟩,?_⟩
      simp only[qaf]
      simp -implicitDefEqProofs [hpl,bqP,bqL,bqR,mkTo,qaa,hNN]
end Go.Av.F
end
section
namespace Go.Proofs.YtbdklnphnibfiaaDoor
open Go.ChangeShapes Go.WideShapes Go.ChangeAt Go.RowKit
theorem fact_own:ownKnob Tryd.prog.godebug=none:=by kernel_rfl
theorem fact_laidOut:laidOutB Tryd.prog=true:=by kernel_rfl
theorem fact_mapsRowed:mapsRowed Tryd.prog=true:=by kernel_rfl
theorem fact_heard:Tryd.prog.stopsHeard=true:=by kernel_rfl
theorem fact_mayEnter:Tryd.prog.mayEnter=true:=by kernel_rfl
theorem fact_main:Tryd.pinned.checked.prog.mainIs=some (true,"a67ba4b7298801f2c3e4e64e462f9982f82466d5bd896d97c72fc21448b91f89".toList):=by kernel_rfl
theorem fact_looks:false=Tryd.prog.looks []:=by kernel_rfl
theorem fact_nogo:Tryd.prog.funcs.any Func.goes=false:=by kernel_rfl
theorem goes_none {P:Program} (h:P.funcs.any Func.goes=false) (f:Nat):P.goes f=false:=by
 unfold Program.goes
 rw[h,Bool.and_false,Bool.or_false,List.any_eq_false]
 intro g _
 cases hg:P.funcs[g]? with
 | none=>simp
 | some fn =>
  rw[Array.any_eq_false]at h
  obtain⟨hl,rfl⟩:=Array.getElem?_eq_some_iff.1 hg
  simpa using h g hl
theorem goesBy_none {P:Program} (h:P.funcs.any Func.goes=false) (c:OpenClaim):false=c.goesBy P:=by
 unfold OpenClaim.goesBy Program.goesAt Program.goesFrom
 have e:P.goes=fun _=>false:=funext fun f=>goes_none h f
 rw[e]
 cases P.funcNamed c.func <;> cases c.start <;> simp
end Go.Proofs.YtbdklnphnibfiaaDoor
end
