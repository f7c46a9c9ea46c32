/- Lemmas for the proof, no statement of the seat; no conditions. -/
import Derived.Test.YthgigdhkcffloaaGreatDoorLayAA
import Derived.Laws.BytesString
import Derived.Lib.ConvBytes
import Derived.IntWalk
set_option linter.unusedSimpArgs false
set_option linter.unusedVariables false
set_option linter.unnecessarySimpa false
set_option maxRecDepth 100000
section
namespace Go.Av
open Go.RowKit
section
variable {P:Program} {w:World} {Z:Addr→Prop} {γ:Gm} {h:Hp}
def isC:Operand→Bool
 | .const _=>true
 | _=>false
def nilCmp (op:BinOp):Option Bool→Option (Prop×AV)
 | some b=>match op with
  | .eql=>some (True,.bool b)
  | .neq=>some (True,.bool (!b))
  | _=>none
 | none=>match op with
  | .eql=>some (True,.anyb)
  | .neq=>some (True,.anyb)
  | _=>none
def evBin (P:Program) (op:BinOp) (xt:Nat) (x y:Operand):AV→AV→Option (Prop×AV)
 | .int k m,.int k' n=>evInt op k k' m n
 | .str s,.str u=>evStr op s u
 | .bool a,.bool b=>match ttOf P xt with
  | some ⟨.bool,_,_,_⟩=>match op with
   | .eql=>some (True,.bool (a == b))
   | .neq=>some (True,.bool (!(a == b)))
   | _=>none
  | _=>none
 | .nili,.nili=>match ttOf P xt with
  | some ⟨.ifc,_,_,_⟩=>match op with
   | .eql=>some ((isC x || isC y)=true,.bool true)
   | .neq=>some ((isC x || isC y)=true,.bool false)
   | _=>none
  | _=>none
 | .ifc,.nili=>match ttOf P xt with
  | some ⟨.ifc,_,_,_⟩=>match op with
   | .eql=>some (True,.bool false)
   | .neq=>some (True,.bool true)
   | _=>none
  | _=>none
 | .agg cs,.agg ds=>match ttOf P xt with
  | some i=>match op with
   | .eql=>some (eqTy P xt=true∧i.td.agg=true∧i.zero.length=i.size∧shL i.zero cs=true∧shL i.zero ds=true,.bool (beqC cs ds))
   | .neq=>some (eqTy P xt=true∧i.td.agg=true∧i.zero.length=i.size∧shL i.zero cs=true∧shL i.zero ds=true,.bool (!(beqC cs ds)))
   | _=>none
  | none=>none
 | .nils,.nils=>match ttOf P xt with
  | some ⟨.slc _,_,_,_⟩=>nilCmp op (some true)
  | _=>none
 | .sl _ _ len,.nils=>match ttOf P xt with
  | some ⟨.slc _,_,_,_⟩=>nilCmp op (if len=0 then none else some false)
  | _=>none
 | .slc _ _ len _,.nils=>match ttOf P xt with
  | some ⟨.slc _,_,_,_⟩=>nilCmp op (if len=0 then none else some false)
  | _=>none
 | .lst _ els,.nils=>match ttOf P xt with
  | some ⟨.slc _,_,_,_⟩=>nilCmp op (if els.isEmpty=true then none else some false)
  | _=>none
 | _,_=>none
theorem tt_ifc {t:Nat} {i:TI} (hi:ttOf P t=some i) (he:i.td=.ifc):∃ ms,P.underlying t=some (.interface ms):=by
 obtain⟨d,f,z,hd,htd,_⟩:=qbp hi
 rw[he]at htd;cases d <;> simp[tdOf]at htd;exact⟨_,hd⟩
theorem eqn_nn (d:Nat) {xt:Nat} {ms} (hu:P.underlying xt=some (.interface ms)):(Op.equalIn (d+1) xt .nilIface .nilIface).run P w=.ok true w:=by
 simp[Op.equalIn,qaa hu]
theorem eqn_in (d:Nat) {xt:Nat} {ms} (hu:P.underlying xt=some (.interface ms)) (t:TypeId) (v:Value):(Op.equalIn (d+1) xt (.iface t v) .nilIface).run P w=.ok false w:=by
 simp[Op.equalIn,qaa hu]
theorem eqn_bb (d:Nat) {xt:Nat} (hu:P.underlying xt=some .bool) (a b:Bool):(Op.equalIn (d+1) xt (.bool a) (.bool b)).run P w=.ok (a == b) w:=by
 simp[Op.equalIn,qaa hu]
theorem run_eql {xt:Nat} {x y:Value} (hx:binOp .eql xt x y=do pure (.bool (← Op.equal xt x y))) {b:Bool} (h:(Op.equalIn 10000 xt x y).run P w=.ok b w):(binOp .eql xt x y).run P w=.ok (.bool b) w:=by
 grind[Sem.run_bind,Op.equal,Op.maxDepth,Result.andThen_ok,Sem.run_pure]
theorem run_neq {xt:Nat} {x y:Value} (hx:binOp .neq xt x y=do pure (.bool (!(← Op.equal xt x y)))) {b:Bool} (h:(Op.equalIn 10000 xt x y).run P w=.ok b w):(binOp .neq xt x y).run P w=.ok (.bool (!b)) w:=by
 grind[Sem.run_bind,Op.equal,Op.maxDepth,Result.andThen_ok,Sem.run_pure]
theorem eqn_sl (d:Nat) {xt e:Nat} (hu:P.underlying xt=some (.slice e)) (a:Option Addr) (n c:Nat):(Op.equalIn (d+1) xt (.slice a n c) (.slice none 0 0)).run P w=.ok a.isNone w:=by
 cases a <;> simp[Op.equalIn,qaa hu]
theorem nilCmp_sound {op:BinOp} {xt e:Nat} {x y:Operand} (hu:P.underlying xt=some (.slice e)) {a:Option Addr} {n c:Nat} {k:Option Bool} (hk:∀ b,k=some b→a.isNone=b) {p:Prop} {v:AV}
  (he:nilCmp op k=some (p,v)):∃ u,(do eqGuard op xt x y (.slice a n c) (.slice none 0 0);binOp op xt (.slice a n c) (.slice none 0 0):Sem Value).run P w=.ok u w∧AVRel w Z γ v u:=by
 have hg:(eqGuard op xt x y (.slice a n c) (.slice none 0 0)).run P w=.ok () w:=by
  simp[eqGuard]
 cases k with
 | some b =>
  have hb:=hk b rfl
  cases op <;> simp only[nilCmp,Option.some.injEq,Prod.mk.injEq,reduceCtorEq]at he <;> obtain⟨_,rfl⟩:=he
  ·exact⟨_,run_eql rfl (eqn_sl 9999 hu a n c),by rw[hb];exact .bool _ _⟩
  ·exact⟨_,run_neq rfl (eqn_sl 9999 hu a n c),by rw[hb];exact .bool _ _⟩
 | none =>
  cases op <;> simp only[nilCmp,Option.some.injEq,Prod.mk.injEq,reduceCtorEq]at he <;> obtain⟨_,rfl⟩:=he
  ·exact⟨_,run_eql rfl (eqn_sl 9999 hu a n c),.anyb _ _⟩
  ·exact⟨_,run_neq rfl (eqn_sl 9999 hu a n c),.anyb _ _⟩
theorem evBin_sound {op:BinOp} {xt:Nat} {x y:Operand} {a b:AV} {av bv:Value} (ha:AVRel w Z γ a av) (hb:AVRel w Z γ b bv) {p:Prop} {v:AV}
  (he:evBin P op xt x y a b=some (p,v)) (hp:p):∃ u,(do eqGuard op xt x y av bv;binOp op xt av bv:Sem Value).run P w=.ok u w∧AVRel w Z γ v u:=by
 cases ha <;> cases hb <;> simp only[evBin,reduceCtorEq]at he
 case int.int k m k' n =>
  rw[eqGuard_at_int]
  simpa using evInt_sound (P:=P) (w:=w) (Z:=Z) (γ:=γ) xt he hp
 case str.str s u =>
  rw[eqGuard_at_string]
  simpa using evStr_sound (P:=P) (w:=w) (Z:=Z) (γ:=γ) xt he hp
 case bool.bool b1 b2 =>
  split at he
  ·rename_i ht
   have hu:=tt_bool ht rfl
   cases op <;> simp only[Option.some.injEq,Prod.mk.injEq,reduceCtorEq]at he <;> obtain⟨rfl,rfl⟩:=he
   ·exact⟨_,run_eql rfl (eqn_bb 9999 hu _ _),.bool _ _⟩
   ·exact⟨_,run_neq rfl (eqn_bb 9999 hu _ _),.bool _ _⟩
  grind
 case nili.nili =>
  split at he
  ·rename_i ht
   obtain⟨ms,hu⟩:=tt_ifc ht rfl
   have hg:p→(eqGuard op xt x y .nilIface .nilIface).run P w=.ok () w:=by
    intro hp
    have:(isC x || isC y)=true:=by
     grind
    cases x <;> cases y <;> simp[isC]at this <;> first | (rw[eqGuard_nil_constR];rfl) | (rw[eqGuard_nil_constL];rfl)
   cases op <;> simp only[Option.some.injEq,Prod.mk.injEq,reduceCtorEq]at he <;> obtain⟨rfl,rfl⟩:=he
   ·exact⟨_,by rw[Sem.run_bind,hg hp,Result.andThen_ok,run_eql rfl (eqn_nn 9999 hu)],.bool _ _⟩
   ·exact⟨_,by rw[Sem.run_bind,hg hp,Result.andThen_ok,run_neq rfl (eqn_nn 9999 hu)];rfl,.bool _ _⟩
  grind
 case ifc.nili =>
  split at he
  ·rename_i ht
   obtain⟨ms,hu⟩:=tt_ifc ht rfl
   cases op <;> simp only[Option.some.injEq,Prod.mk.injEq,reduceCtorEq]at he <;> obtain⟨rfl,rfl⟩:=he
   ·exact⟨_,run_eql rfl (eqn_in 9999 hu _ _),.bool _ _⟩
   ·exact⟨_,run_neq rfl (eqn_in 9999 hu _ _),.bool _ _⟩
  grind
 case agg.agg cs xs hs hr ds ys hs' hr' =>
  split at he
  ·rename_i i ht
   have key:eqTy P xt=true→i.td.agg=true→i.zero.length=i.size→shL i.zero cs=true→shL i.zero ds=true →
     (eqGuard op xt x y (.agg xs) (.agg ys)).run P w=.ok () w∧(Op.equalIn 10000 xt (.agg xs) (.agg ys)).run P w=.ok (beqC cs ds) w:=by
    intro h1 h2 h3 h4 h5
    refine⟨?_,eq_agg (w:=w) (Z:=Z) (γ:=γ) h1 ht h2 ⟨hs,hr⟩ ⟨hs',hr'⟩ h4 h5 h3⟩
    grind[eqTy,run_eqGuard_agg]
   cases op <;> simp only[Option.some.injEq,Prod.mk.injEq,reduceCtorEq]at he <;> obtain⟨rfl,rfl⟩:=he
   ·obtain⟨k1,k2⟩:=key hp.1 hp.2.1 hp.2.2.1 hp.2.2.2.1 hp.2.2.2.2
    refine⟨_,?_,.bool _ _⟩
    grind[Sem.run_bind,Result.andThen_ok,run_eql_struct]
   ·obtain⟨k1,k2⟩:=key hp.1 hp.2.1 hp.2.2.1 hp.2.2.2.1 hp.2.2.2.2
    refine⟨_,?_,.bool _ _⟩
    grind[Sem.run_bind,Result.andThen_ok,run_neq_struct]
  grind
 case nils.nils =>
  split at he
  ·rename_i ht;exact nilCmp_sound (qau ht rfl) (fun b hb=>by grind) he
  grind
 case sl.nils id e len cap r hg hl hc =>
  split at he
  ·rename_i ht
   refine nilCmp_sound (qau ht rfl) (fun b hb=>?_) he
   grind
  grind
 case sl0.nils =>
  split at he
  ·rename_i ht
   refine nilCmp_sound (qau ht rfl) (fun b hb=>?_) he
   grind
  grind
 case slc.nils id e len cap r hg hl hc =>
  split at he
  ·rename_i ht
   refine nilCmp_sound (qau ht rfl) (fun b hb=>?_) he
   grind
  grind
 case slc0.nils =>
  split at he
  ·rename_i ht
   refine nilCmp_sound (qau ht rfl) (fun b hb=>?_) he
   grind
  grind
 case lst.nils sz els a cap vf hl hc hs hr =>
  split at he
  ·rename_i ht
   refine nilCmp_sound (qau ht rfl) (fun b hb=>?_) he
   split at hb
   ·grind
   ·rename_i hne
    cases hb
    obtain⟨A,rfl,_⟩:=hc (by grind)
    rfl
  grind
def evUn (op:UnOp):AV→Option (Prop×AV)
 | .bool b=>match op with
  | .not=>some (True,.bool (!b))
  | _=>none
 | .anyb=>match op with
  | .not=>some (True,.anyb)
  | _=>none
 | .int k n=>match op with
  | .neg=>some (True,.int k (k.wrap (0-n)))
  | _=>none
 | _=>none
theorem evUn_sound {op:UnOp} {a:AV} {av:Value} (ha:AVRel w Z γ a av) {p:Prop} {v:AV} (he:evUn op a=some (p,v)) (hp:p) :
  ∃ u,(Op.unary op av).run P w=.ok u w∧AVRel w Z γ v u:=by
 cases ha <;> simp only[evUn,reduceCtorEq]at he
 ·cases op <;> simp only[Option.some.injEq,Prod.mk.injEq,reduceCtorEq]at he
  obtain⟨rfl,rfl⟩:=he
  exact⟨_,by rfl,.int _ _ _⟩
 ·cases op <;> simp only[Option.some.injEq,Prod.mk.injEq,reduceCtorEq]at he
  obtain⟨rfl,rfl⟩:=he
  exact⟨_,by rfl,.bool _ _⟩
 ·cases op <;> simp only[Option.some.injEq,Prod.mk.injEq,reduceCtorEq]at he
  obtain⟨rfl,rfl⟩:=he
  exact⟨_,by rfl,.anyb _ _⟩
def byteOf:List AV→UInt8
 | [.int .u8 n]=>UInt8.ofNat n.toNat
 | _=>0
def isU8:List AV→Bool
 | [.int .u8 _]=>true
 | _=>false
def evConv (P:Program) (h:Hp) (src dst:Nat):AV→Option (Prop×AV)
 | .int _ n=>match ttOf P src,ttOf P dst with
  | some _,some ⟨.int k,_,_,_⟩=>some (True,.int k (k.wrap n))
  | _,_=>none
 | .str s=>match ttOf P src,ttOf P dst with
  | some _,some ⟨.str,_,_,_⟩=>some (True,.str s)
  | _,_=>none
 | .nils=>match ttOf P src,ttOf P dst with
  | some ⟨.slc e,_,_,_⟩,some ⟨.str,_,_,_⟩=>match ttOf P e with
   | some ⟨.int .u8,_,_,_⟩=>some (True,.str [])
   | _=>none
  | _,_=>none
 | .sl id e0 len=>match ttOf P src,ttOf P dst,h id with
  | some ⟨.slc e,_,_,_⟩,some ⟨.str,_,_,_⟩,some o=>match ttOf P e with
   | some ⟨.int .u8,_,_,_⟩=>some (o.sz=1∧e0+len≤o.els.length∧((o.els.drop e0).take len).all isU8=true,.str (((o.els.drop e0).take len).map byteOf))
   | _=>none
  | _,_,_=>none
 | .lst sz els=>match ttOf P src,ttOf P dst with
  | some ⟨.slc e,_,_,_⟩,some ⟨.str,_,_,_⟩=>match ttOf P e with
   | some ⟨.int .u8,_,_,_⟩=>some (sz=1∧els.all isU8=true,.str (els.map byteOf))
   | _=>none
  | _,_=>none
 | _=>none
theorem push_fold (ns:List Int):∀ (s:List UInt8),ns.foldl (fun(r:ByteArray) n=>r.push (UInt8.ofNat n.toNat)) ⟨s.toArray⟩=⟨(s++ns.map fun n=>UInt8.ofNat n.toNat).toArray⟩:=by
 induction ns<;>simp_all
theorem bytes_run {A:Addr} {els:List (List AV)} {src dst e cap:Nat} (hA:A.spot=none) (hs:P.underlying src=some (.slice e)) (he:P.underlying e=some (.int .u8)) (hd:P.underlying dst=some .string)
  (h8:els.all isU8=true) (hc:∀ i,i<els.length→∃ v,w.cell? (A.at i)=some v∧AVRel w Z γ ((els.getD i []).getD 0 .top) v) :
  (convert src dst (.slice (some A) els.length cap)).run P w=.ok (.string ⟨(els.map byteOf).toArray⟩) w:=by
 let num:List AV→Int:=fun
  | [.int .u8 n]=>n
  | _=>0
 have hload:(loadCells A els.length).run P w=.ok ((els.map num).map (Value.int .u8)).toArray w:=by
  have:=run_loadCells_list (P:=P) w A ((els.map num).map (Value.int .u8)) (fun j v hj=>by
   rw[add_of_spot A hA]
   have hj':j<els.length:=by
    grind
   obtain⟨u,hu,hr⟩:=hc j hj'
   rw[hu]
   have hel:els.getD j []=els[j]:=by grind
   have h8':=List.all_eq_true.1 h8 els[j] (List.getElem_mem hj')
   rw[hel]at hr
   simp only[List.map_map,List.getElem?_map,List.getElem?_eq_getElem hj',Option.map_some,Function.comp,Option.some.injEq]at hj
   rw[← hj]
   generalize els[j]=el at h8' hr
   match el,h8' with
   | [.int .u8 n],_ =>
    simp only[List.getD_cons_zero]at hr
    cases hr
    rfl)
  grind
 rw[run_convert_bytes_string w src dst e _ _ _ hs he hd,run_bytesToString w A els.length cap (els.map num) hload]
 have hp:=push_fold (els.map num) []
 simp only[List.nil_append,List.map_map]at hp
 rw[show ByteArray.empty=(⟨([]:List UInt8).toArray⟩:ByteArray) from rfl,hp]
 congr 4
 apply List.map_congr_left
 intro el hel
 have h8':=List.all_eq_true.1 h8 el hel
 match el,h8' with
 | [.int .u8 n],_=>rfl
theorem conv_empty {src dst e:Nat} {a:Option Addr} {cap:Nat} (hs:P.underlying src=some (.slice e)) (he:P.underlying e=some (.int .u8)) (hd:P.underlying dst=some .string) :
  (convert src dst (.slice a 0 cap)).run P w=.ok (.string ⟨([]:List UInt8).toArray⟩) w:=by
 rw[run_convert_bytes_string w src dst e _ _ _ hs he hd]
 cases a with
 | none=>rfl
 | some a =>
  rfl
theorem evConv_sound (hh:HRel w Z γ h) {src dst:Nat} {a:AV} {av:Value} (ha:AVRel w Z γ a av) {p:Prop} {v:AV} (he:evConv P h src dst a=some (p,v)) (hp:p) :
  ∃ u,(convert src dst av).run P w=.ok u w∧AVRel w Z γ v u:=by
 cases ha with
 | int γ k n =>
  simp only[evConv]at he
  split at he
  ·rename_i i k' sz b z hs hd
   obtain⟨rfl,rfl⟩:=he
   obtain⟨ds,_,_,hds,_⟩:=qbp hs
   exact⟨_,by simp[convert,qaa hds,qaa (tt_int hd rfl),Conv.intToInt],.int _ _ _⟩
  grind
 | str γ s =>
  simp only[evConv]at he
  split at he
  ·rename_i i sz b z hs hd
   obtain⟨rfl,rfl⟩:=he
   obtain⟨ds,_,_,hds,_⟩:=qbp hs
   exact⟨_,by simp[convert,qaa hds,qaa (tt_str hd rfl)],.str _ _⟩
  grind
 | nils γ =>
  simp only[evConv]at he
  split at he
  ·rename_i e sz b z sz' b' z' hs hd
   split at he
   ·rename_i hee
    obtain⟨rfl,rfl⟩:=he
    exact⟨_,conv_empty (qau hs rfl) (tt_int hee rfl) (tt_str hd rfl),.str _ _⟩
   grind
  grind
 | sl γ id e0 len cap r hg hl hc =>
  simp only[evConv]at he
  split at he
  ·rename_i e sz b z sz' b' z' o hs hd ho
   split at he
   ·rename_i hee
    obtain⟨rfl,rfl⟩:=he
    obtain⟨h1,h2,h3⟩:=hp
    obtain⟨r',hr',hor⟩:=hh.obj _ _ ho
    rw[hg]at hr';injection hr' with hr';subst hr'
    have hlen:((o.els.drop e0).take len).length=len:=by grind
    have:=bytes_run (P:=P) (w:=w) (Z:=Z) (γ:=γ) (A:=r.A.at (e0 * r.sz)) (els:=(o.els.drop e0).take len) (cap:=cap) rfl (qau hs rfl) (tt_int hee rfl) (tt_str hd rfl) h3 (fun i hi=>by
     rw[hlen]at hi
     obtain⟨v,hv,hr⟩:=hor.cell (e0+i) 0 (by omega) (by omega)
     refine⟨v,?_,?_⟩
     ·rw[qai,← hv,hor.sz,h1];simp
     grind)
    rw[hlen]at this
    exact⟨_,this,.str _ _⟩
   grind
  grind
 | sl0 γ id e0 a =>
  simp only[evConv]at he
  split at he
  ·rename_i e sz b z sz' b' z' o hs hd ho
   split at he
   ·rename_i hee
    obtain⟨rfl,rfl⟩:=he
    exact⟨_,conv_empty (qau hs rfl) (tt_int hee rfl) (tt_str hd rfl),by simp[AVRel.str]⟩
   grind
  grind
 | lst γ sz els a cap vf hl hc hs' hr =>
  simp only[evConv]at he
  split at he
  ·rename_i e sz' b z sz'' b' z' hs hd
   split at he
   ·rename_i hee
    obtain⟨rfl,rfl⟩:=he
    obtain⟨rfl,h3⟩:=hp
    cases els with
    | nil=>exact⟨_,conv_empty (qau hs rfl) (tt_int hee rfl) (tt_str hd rfl),.str _ _⟩
    | cons el rest =>
     obtain⟨A,rfl,hz,hA,hcell⟩:=hc (by simp)
     have:=bytes_run (P:=P) (w:=w) (Z:=Z) (γ:=γ) (A:=A) (els:=el::rest) (cap:=cap) hA (qau hs rfl) (tt_int hee rfl) (tt_str hd rfl) h3 (fun i hi=>⟨vf i 0,by
      grind,(hr i 0 hi (by omega)).ofClosed⟩)
     exact⟨_,this,.str _ _⟩
   grind
  grind
 | _=>grind[evConv]
def evVal (P:Program) (t:Tm) (h:Hp) (o:Oper):Option (Prop×AV) :=
 match o.op with
 | .move x=>some (True,opd t x)
 | .assign x=>some (True,opd t x)
 | .pick c a b=>match opd t c with
  | .bool c=>some (True,if c=true then opd t a else opd t b)
  | _=>none
 | .build ty parts=>evBuild P ty (parts.toList.map fun x=>(x.1,opd t x.2))
 | .load ty a=>evLoad P h ty (opd t a)
 | .nilCheck x=>match opd t x with
  | .ptr id e k=>some (True,.ptr id e k)
  | .elm cs=>some (True,.elm cs)
  | .fn f c=>some (True,.fn f c)
  | _=>none
 | .binOp op xt x y _=>evBin P op xt x y (opd t x) (opd t y)
 | .unOp op _ x=>evUn op (opd t x)
 | .convert s d x=>evConv P h s d (opd t x)
 | .makeFunc (.func f) first cap=>match first.toList with
  | []=>some (True,.fn f (cap.toList.map (opd t)))
  | _=>none
 | .slice ty x lo hi mx=>match mx with
  | none=>evSlice P h ty (opd t x) (lo.map (opd t)) (hi.map (opd t))
  | some m=>evSlice3 P h ty (opd t x) (lo.map (opd t)) (hi.map (opd t)) (opd t m)
 | .fieldAddr s x f=>evFieldAddr P s f (opd t x)
 | .field s x f=>evField P s f (opd t x)
 | .indexAddr ty x i=>evIndexAddr P h ty (opd t x) (opd t i)
 | .index ty x i=>evIndex P ty (opd t x) (opd t i)
 | .extract x ix=>match opd t x with
  | .tup vs=>match vs[ix]? with
   | some v=>some (True,v)
   | none=>none
  | _=>none
 | .call ⟨.builtin .len,args,tys⟩=>match args.toList,tys.toList with
  | [x],[ty]=>evLen P ty (opd t x)
  | _,_=>none
 | .call ⟨.builtin .cap,args,tys⟩=>match args.toList,tys.toList with
  | [x],[ty]=>evCap P ty (opd t x)
  | _,_=>none
 | .call ⟨.builtin .min,args,_⟩=>match args.toList with
  | [x,y]=>match opd t x,opd t y with
   | .int k m,.int _ n=>some (True,.int k (if n<m then n else m))
   | _,_=>none
  | _=>none
 | .call ⟨.builtin .max,args,_⟩=>match args.toList with
  | [x,y]=>match opd t x,opd t y with
   | .int k m,.int _ n=>some (True,.int k (if m<n then n else m))
   | _,_=>none
  | _=>none
 | _=>none
def TRel (w:World) (Z:Addr→Prop) (γ:Gm) (t:Tm) (a:Act):Prop:=∀ i,AVRel w Z γ (t i) (a.tmps.getD i undef)
theorem TRel.opd {t:Tm} {a:Act} (ht:TRel w Z γ t a) (hg:GlR w Z) (x:Operand):AVRel w Z γ (opd t x) (a.eval x):=by
 cases x with
 | tmp i=>exact ht i
 | const v=>exact avOf_rel _ _ _ _
 | global g =>
  simp only[Av.opd,Act.eval]
  split
  ·rename_i cs h;exact(hg g cs h).1.ofClosed
  ·exact .top _ _
 | func f=>exact .fn _ _ _ _ rfl fun j hj=>by grind
theorem TRel.opt {t:Tm} {a:Act} (ht:TRel w Z γ t a) (hg:GlR w Z) (x:Option Operand):OpRel w Z γ (x.map (Av.opd t)) (x.map a.eval):=by
 cases x with
 | none=>exact .none
 | some x=>exact .some _ _ (ht.opd hg x)
theorem toList_one {α:Type} {x:Array α} {a:α} (h:x.toList=[a]):x=#[a]:=by
 grind
theorem toList_two {α:Type} {x:Array α} {a b:α} (h:x.toList=[a,b]):x=#[a,b]:=by
 grind
theorem evVal_sound (hh:HRel w Z γ h) {t:Tm} {a:Act} (ht:TRel w Z γ t a) {o:Oper} {p:Prop} {v:AV} (he:evVal P t h o=some (p,v)) (hp:p) :
  ∃ u,(execOp a.eval o).run P w=.ok (.value u) w∧AVRel w Z γ v u:=by
 have wrap:∀ {s:Sem Value},(∃ u,s.run P w=.ok u w∧AVRel w Z γ v u)→∃ u,(do pure (Next.value (← s)):Sem Next).run P w=.ok (.value u) w∧AVRel w Z γ v u:=by
  simp_all
 obtain⟨dst,op,type,pos,after,guard⟩:=o
 cases op with
 | move x =>
  obtain⟨_,rfl⟩:=he
  exact⟨_,rfl,ht.opd hh.gl x⟩
 | assign x =>
  obtain⟨_,rfl⟩:=he
  exact⟨_,rfl,ht.opd hh.gl x⟩
 | pick c x y =>
  simp only[evVal]at he
  split at he
  ·rename_i cb hc
   obtain⟨_,rfl⟩:=he
   have:=ht.opd hh.gl c
   rw[hc]at this
   generalize hcv:a.eval c=cv at this
   cases this
   refine⟨if cb=true then a.eval x else a.eval y,by simp_all[execOp,asBool],?_⟩
   split
   ·exact ht.opd hh.gl x
   ·exact ht.opd hh.gl y
  grind
 | build ty parts =>
  refine wrap (evBuild_sound (t:=ty) (parts:=parts.toList.map fun(x:Nat×Operand)=>(x.1,opd t x.2)) (by simp) (fun j x y hx hy=>?_) he hp)
  simp only[List.getElem?_map,Array.getElem?_map]at hx hy
  rw[Array.getElem?_toList]at hx
  cases hj:parts[j]? with
  | none=>grind
  | some q =>
   simp only[hj,Option.map_some,Option.some.injEq]at hx hy
   subst hx;subst hy
   exact⟨rfl,ht.opd hh.gl _⟩
 | load ty x=>exact wrap (evLoad_sound hh (ht.opd hh.gl x) he hp)
 | nilCheck x =>
  simp only[evVal]at he
  have hx:=ht.opd hh.gl x
  split at he
  ·rename_i id e k hc
   obtain⟨_,rfl⟩:=he
   rw[hc]at hx
   generalize hv:a.eval x=xv at hx
   refine⟨xv,?_,hx⟩
   cases hx;simp_all[execOp]
  ·rename_i cs hc
   obtain⟨_,rfl⟩:=he
   rw[hc]at hx
   generalize hv:a.eval x=xv at hx
   refine⟨xv,?_,hx⟩
   cases hx;simp_all[execOp]
  ·rename_i f c hc
   obtain⟨_,rfl⟩:=he
   rw[hc]at hx
   generalize hv:a.eval x=xv at hx
   refine⟨xv,?_,hx⟩
   cases hx;simp_all[execOp]
  grind
 | binOp op xt x y yt=>exact wrap (evBin_sound (ht.opd hh.gl x) (ht.opd hh.gl y) he hp)
 | unOp op xt x=>exact wrap (evUn_sound (ht.opd hh.gl x) he hp)
 | convert s d x=>exact wrap (evConv_sound hh (ht.opd hh.gl x) he hp)
 | makeFunc fn first cap =>
  cases fn with
  | func f =>
   simp only[evVal]at he
   split at he
   ·rename_i hf
    simp only[Option.some.injEq,Prod.mk.injEq]at he
    obtain⟨_,rfl⟩:=he
    have hfe:first=#[]:=Array.toList_inj.1 hf
    subst hfe
    refine wrap ⟨.func (.func f) #[] (cap.map a.eval),by simp[Instr.makeFunc],.fn _ f (cap.toList.map (opd t)) (cap.map a.eval) (by simp) fun j hj=>?_⟩
    have hj':j<cap.size:=by grind
    have h1:(cap.toList.map (opd t)).getD j .top=opd t cap[j]:=by grind
    have h2:(cap.map a.eval).getD j undef=a.eval cap[j]:=by simp_all
    rw[h1,h2];exact ht.opd hh.gl _
   grind
  | _=>grind[evVal]
 | slice ty x lo hi mx =>
  simp only[evVal]at he
  split at he
  ·rename_i hm
   exact wrap (evSlice_sound hh (ht.opd hh.gl x) (ht.opt hh.gl lo) (ht.opt hh.gl hi) he hp)
  ·exact wrap (evSlice3_sound hh (ht.opd hh.gl x) (ht.opt hh.gl lo) (ht.opt hh.gl hi) (ht.opd hh.gl _) he hp)
 | fieldAddr s x f=>exact wrap (evFieldAddr_sound (ht.opd hh.gl x) he hp)
 | field s x f=>exact wrap (evField_sound (ht.opd hh.gl x) he hp)
 | indexAddr ty x i=>exact wrap (evIndexAddr_sound hh (ht.opd hh.gl x) (ht.opd hh.gl i) he hp)
 | index ty x i=>exact wrap (evIndex_sound (ht.opd hh.gl x) (ht.opd hh.gl i) he hp)
 | extract x ix =>
  simp only[evVal]at he
  split at he
  ·rename_i vs hc
   split at he
   ·rename_i u hu
    simp only[Option.some.injEq,Prod.mk.injEq]at he
    obtain⟨_,rfl⟩:=he
    have hx:=ht.opd hh.gl x
    rw[hc]at hx
    generalize hv:a.eval x=xv at hx
    cases hx with
    | tup _ _ ws hs hr =>
     have hlt:=(List.getElem?_eq_some_iff.1 hu).1
     have h1:vs.getD ix .top=u:=by grind
     have h2:=hr ix hlt
     rw[h1]at h2
     refine wrap ⟨ws.getD ix undef,?_,h2⟩
     simp[Instr.extract,hv,Array.getD,show ix<ws.size by omega]
   grind
  grind
 | call c =>
  obtain⟨callee,args,tys⟩:=c
  cases callee with
  | builtin b =>
   cases b
   case len =>
    simp only[evVal]at he
    split at he
    ·rename_i x ty hx hty
     rw[toList_one hx,toList_one hty]
     have:=wrap (evLen_sound (rt:=type) (ht.opd hh.gl x) he hp)
     grind[execOp,resolve,invoke,builtin]
    grind
   case cap =>
    simp only[evVal]at he
    split at he
    ·rename_i x ty hx hty
     rw[toList_one hx,toList_one hty]
     have:=wrap (evCap_sound (rt:=type) (ht.opd hh.gl x) he hp)
     grind[execOp,resolve,invoke,builtin]
    grind
   case min =>
    simp only[evVal]at he
    split at he
    ·rename_i x y hx
     split at he
     ·rename_i k m k' n h1 h2
      obtain⟨_,rfl⟩:=he
      have r1:=ht.opd hh.gl x
      have r2:=ht.opd hh.gl y
      rw[h1]at r1
      rw[h2]at r2
      generalize hv1:a.eval x=xv at r1
      generalize hv2:a.eval y=yv at r2
      cases r1;cases r2
      rw[toList_two hx]
      refine⟨_,?_,.int _ _ _⟩
      simp_all[execOp,resolve,invoke,builtin,Builtin.min_,Builtin.min2]
     grind
    grind
   case max =>
    simp only[evVal]at he
    split at he
    ·rename_i x y hx
     split at he
     ·rename_i k m k' n h1 h2
      obtain⟨_,rfl⟩:=he
      have r1:=ht.opd hh.gl x
      have r2:=ht.opd hh.gl y
      rw[h1]at r1
      rw[h2]at r2
      generalize hv1:a.eval x=xv at r1
      generalize hv2:a.eval y=yv at r2
      cases r1;cases r2
      rw[toList_two hx]
      refine⟨_,?_,.int _ _ _⟩
      simp_all[execOp,resolve,invoke,builtin,Builtin.max_,Builtin.max2]
     grind
    grind
   all_goals grind[evVal]
  | _=>grind[evVal]
 | _=>grind[evVal]
end
end Go.Av

end
section
namespace Go.Av
open Go.RowKit
def Us:=Nat→Prop
instance:Membership Nat Us:=⟨fun(u:Us) d=>u d⟩
def Us.cons (d:Nat) (u:Us):Us:=fun x=>x=d∨x∈u
def Us.app (l:List Nat) (u:Us):Us:=fun x=>x∈l∨x∈u
def Us.of (l:List Nat):Us:=fun x=>x∈l
theorem Us.mem_cons {d x:Nat} {u:Us}:x∈Us.cons d u↔x=d∨x∈u:=Iff.rfl
theorem Us.mem_app {l:List Nat} {x:Nat} {u:Us}:x∈Us.app l u↔x∈l∨x∈u:=Iff.rfl
theorem Us.mem_of {l:List Nat} {x:Nat}:x∈Us.of l↔x∈l:=Iff.rfl
theorem Us.cons_cons {d e:Nat} {u:Us}:Us.cons d (Us.cons e u)=Us.cons e (Us.cons d u):=by
 funext x;exact propext ⟨fun h=>h.elim (fun h=>.inr (.inl h)) fun h=>h.elim .inl fun h=>.inr (.inr h),fun h=>h.elim (fun h=>.inr (.inl h)) fun h=>h.elim .inl fun h=>.inr (.inr h)⟩
theorem Us.cons_app {d:Nat} {l:List Nat} {u:Us}:Us.cons d (Us.app l u)=Us.app l (Us.cons d u):=by
 funext x;exact propext ⟨fun h=>h.elim (fun h=>.inr (.inl h)) fun h=>h.elim .inl fun h=>.inr (.inr h),fun h=>h.elim (fun h=>.inr (.inl h)) fun h=>h.elim .inl fun h=>.inr (.inr h)⟩
structure S where
 t:Tm
 h:Hp
 u:Us
structure Cx where
 w0:World
 Z0:Addr→Prop
 γ0:Gm
 h0:Hp
 n:Nat
def mkD (D:Nat):Deferred:={ target:=.collected D,args:=#[] }
def Mk (w0 w:World) (ds:List Deferred):Prop:=∃ Ds:List Nat,ds=Ds.map mkD∧Ds.Nodup∧∀ D∈Ds,w0.heap.size≤D∧w.heap[D]?=some (Obj.deferred (some []))
theorem Mk.nil (w0 w:World):Mk w0 w []:=⟨[],rfl,List.nodup_nil,fun D h=>by grind⟩
theorem Mk.step {w0 w w':World} {ds:List Deferred} (h:Mk w0 w ds) (hk:∀ D:Nat,w.heap[D]?=some (Obj.deferred (some []))→w'.heap[D]?=some (Obj.deferred (some []))):Mk w0 w' ds :=
 let ⟨Ds,h1,h2,h3⟩:=h
 ⟨Ds,h1,h2,fun D hD=>⟨(h3 D hD).1,hk D (h3 D hD).2⟩⟩
theorem Mk.fr {w0 w w':World} {ds:List Deferred} {F:Addr→Prop} (h:Mk w0 w ds) (hf:Fr F w w'):Mk w0 w' ds:=h.step fun D hD=>by
 have hlt:D<w.heap.size:=(Array.getElem?_eq_some_iff.1 hD).1
 rcases hf.blk D hlt with e | ⟨c,c',ty,fz,h1,_⟩
 all_goals grind
structure SRel (c:Cx) (s:S) (Z:Addr→Prop) (γ:Gm) (a:Act) (w:World):Prop where
 tmp:TRel w Z γ s.t a
 siz:a.tmps.size=c.n
 dfr:Mk c.w0 w a.defers
 hp:HRel w Z γ s.h
 fr:Fr (Foot c.γ0 c.h0) c.w0 w
 own:∀ id o r,s.h id=some o→γ id=some r→∀ p,r.has p→c.w0.heap.size≤p.block∨Foot c.γ0 c.h0 p
 z0:∀ b,c.Z0 b→Z b
 z1:∀ p,Z p→c.Z0 p∨c.w0.heap.size≤p.block
 scp:∀ id r,γ id=some r→id∈s.u
 in0:∀ id o,c.h0 id=some o→∃ r,c.γ0 id=some r
 inp:∀ id o,c.h0 id=some o→γ id=c.γ0 id
theorem SRel.inp_u {c:Cx} {s:S} {Z:Addr→Prop} {γ:Gm} {a:Act} {w:World} (hs:SRel c s Z γ a w) {d:Nat} (hu:d ∉ s.u) {v:Option Rg}:∀ id o,c.h0 id=some o→upd γ d v id=c.γ0 id:=by
 intro id o ho
 obtain⟨r,hr⟩:=hs.in0 id o ho
 have h1:=hs.inp id o ho
 have h2:=hs.scp id r (h1.trans hr)
 grind[qam]
section
variable {P:Program} {w w':World} {Z:Addr→Prop} {γ:Gm} {h:Hp}
theorem TRel.put {t:Tm} {a:Act} (ht:TRel w Z γ t a) {d:Nat} (hd:d<a.tmps.size) {v:AV} {u:Value} (hv:AVRel w Z γ v u):TRel w Z γ (upd t d v) (a.put (some d) u):=by
 intro i
 by_cases hi:i=d
 ·simp_all[qaj,Act.put]
 ·rw[qam _ _ hi]
  have:(a.put (some d) u).tmps.getD i undef=a.tmps.getD i undef:=by
   simp_all[Act.put,Ne.symm]
  rw[this];exact ht i
def putA (t:Tm) (d:Option Nat) (v:AV):Tm :=
 match d with
 | some d=>upd t d v
 | none=>t
theorem TRel.putO {t:Tm} {a:Act} (ht:TRel w Z γ t a) {d:Option Nat} (hd:∀ k,d=some k→k<a.tmps.size) {v:AV} {u:Value} (hv:AVRel w Z γ v u):TRel w Z γ (putA t d v) (a.put d u):=by
 cases d with
 | none=>exact ht
 | some d=>exact ht.put (hd d rfl) hv
theorem HRel.same (hh:HRel w Z γ h) (hc:∀ p:Addr,p.block<w.heap.size→w'.cell? p=w.cell? p∧w'.frozen? p=w.frozen? p) (hs:w.heap.size≤w'.heap.size):HRel w' Z γ h:=by
 refine⟨fun id o ho=>?_,hh.dis,hh.zon,fun b hb=>Nat.lt_of_lt_of_le (hh.zlt b hb) hs,hh.gl.world (fun _ h=>h) fun p hp=>(hc p (hh.zlt _ hp)).1⟩
 obtain⟨r,hr,hor⟩:=hh.obj id o ho
 refine⟨r,hr,hor.spot,hor.sz,hor.fit,hor.len,fun k hk=>?_,fun e j he hj=>?_,fun h1 h2 k=>?_⟩
 ·obtain⟨⟨v,hv⟩,hf⟩:=hor.live k hk
  grind[World.block_lt_of_cell?]
 ·obtain⟨v,hv,hr⟩:=hor.cell e j he hj
  have hb:=World.block_lt_of_cell? w _ hv
  exact⟨v,((hc _ hb).1).trans hv,hr.world (fun _ h=>h) fun p hp=>(hc p (hh.zlt _ hp)).1⟩
 ·obtain⟨⟨v,hv⟩,_⟩:=hor.live 0 h2
  have hb:=World.block_lt_of_cell? w _ hv
  exact((hc ⟨r.A.block,k,none⟩ hb).2).trans (hor.pln h1 h2 k)
theorem TRel.same {t:Tm} {a:Act} (ht:TRel w Z γ t a) (hz:∀ b,Z b→b.block<w.heap.size) (hc:∀ p:Addr,p.block<w.heap.size→w'.cell? p=w.cell? p):TRel w' Z γ t a :=
 fun i=>(ht i).world (fun _ h=>h) fun p hp=>hc p (hz _ hp)
theorem HRel.new (hh:HRel w Z γ h) {d:Nat} {o:Ob} {cells:Array Value} {ty:TypeId} {fz:Nat×Nat} (hg:γ d=none)
  (hsz:0<o.sz∨o.els=[]) (hfit:o.els.length * o.sz≤cells.size) (hlen:∀ e,e<o.els.length→(o.els.getD e []).length=o.sz) (hfz:cells.size≤fz.1∧o.sz≤1∨fz.2=0)
  (hrel:∀ e j,e<o.els.length→j<o.sz→AVRel w Z γ ((o.els.getD e []).getD j .top) (cells.getD (e * o.sz+j) undef)) (w':World) 
  (hw:w'.heap=w.heap.push (.cells cells ty fz)) :
  HRel w' Z (upd γ d (some ⟨⟨w.heap.size,0,none⟩,cells.size,o.sz⟩)) (upd h d (some o))∧(∀ id r,γ id=some r→upd γ d (some ⟨⟨w.heap.size,0,none⟩,cells.size,o.sz⟩) id=some r):=by
 have hgm:∀ id r,γ id=some r→upd γ d (some ⟨⟨w.heap.size,0,none⟩,cells.size,o.sz⟩) id=some r:=by
  grind[qam]
 have hold:∀ p:Addr,p.block<w.heap.size→w'.cell? p=w.cell? p∧w'.frozen? p=w.frozen? p:=by
  grind[World.cell?,World.frozen?]
 have hnew:∀ k,k<cells.size→w'.cell? ⟨w.heap.size,k,none⟩=some (cells.getD k undef)∧w'.frozen? ⟨w.heap.size,k,none⟩=false:=by
  intro k hk
  have:w'.heap[w.heap.size]?=some (.cells cells ty fz):=by grind
  obtain⟨lo,hi⟩:=fz
  refine⟨by simp_all[World.cell?],?_⟩
  grind[World.frozen?]
 have hw1:∀ {G:Gm} {av:AV} {v:Value},AVRel w Z G av v→AVRel w' Z G av v:=fun hr=>hr.world (fun _ h=>h) fun p hp=>(hold p (hh.zlt _ hp)).1
 refine⟨⟨fun id oo ho=>?_,fun id id' oo oo' r r' hne ho ho' hr hr'=>?_,fun id oo r ho hr p hp=>?_,fun b hb=>?_,hh.gl.world (fun _ h=>h) fun p hp=>(hold p (hh.zlt _ hp)).1⟩,hgm⟩
 ·by_cases hid:id=d
  ·subst hid
   rw[qaj]at ho ⊢
   injection ho with ho;subst ho
   refine⟨_,rfl,rfl,rfl,hfit,hlen,fun k hk=>?_,fun e j he hj=>?_,fun h1 _ k=>?_⟩
   ·grind[Addr.at]
   ·have hlt:e * o.sz+j<cells.size:=by
     have:(e+1) * o.sz≤o.els.length * o.sz:=Nat.mul_le_mul_right _ he
     grind
    exact⟨_,by grind[Addr.at],(hw1 (hrel e j he hj)).gmono hgm⟩
   grind[World.frozen?]
  ·rw[qam _ _ hid]at ho
   obtain⟨r,hr,hor⟩:=hh.obj id oo ho
   refine⟨r,hgm _ _ hr,hor.spot,hor.sz,hor.fit,hor.len,fun k hk=>?_,fun e j he hj=>?_,fun h1 h2 k=>?_⟩
   ·obtain⟨⟨v,hv⟩,hf⟩:=hor.live k hk
    grind[World.block_lt_of_cell?]
   ·obtain⟨v,hv,hr⟩:=hor.cell e j he hj
    have hb:=World.block_lt_of_cell? w _ hv
    exact⟨v,((hold _ hb).1).trans hv,(hw1 hr).gmono hgm⟩
   ·obtain⟨⟨v,hv⟩,_⟩:=hor.live 0 h2
    have hb:=World.block_lt_of_cell? w _ hv
    exact((hold ⟨r.A.block,k,none⟩ hb).2).trans (hor.pln h1 h2 k)
 ·have key:∀ id oo r,id≠d→upd h d (some o) id=some oo→upd γ d (some ⟨⟨w.heap.size,0,none⟩,cells.size,o.sz⟩) id=some r→(⟨⟨w.heap.size,0,none⟩,cells.size,o.sz⟩:Rg).apart r:=by
   intro id oo r hid ho hr
   rw[qam _ _ hid]at ho hr
   obtain⟨r1,hr1,hor⟩:=hh.obj id oo ho
   rw[hr]at hr1;injection hr1 with hr1;subst hr1
   by_cases hn:r.n=0
   ·grind[Rg.apart]
   ·obtain⟨⟨v,hv⟩,_⟩:=hor.live 0 (by omega)
    grind[World.block_lt_of_cell?,Rg.apart,at_block]
  by_cases hid:id=d
  ·grind[qaj]
  ·by_cases hid':id'=d
   ·grind[qaj,Rg.apart_comm]
   ·rw[qam _ _ hid]at ho hr
    rw[qam _ _ hid']at ho' hr'
    exact hh.dis id id' oo oo' r r' hne ho ho' hr hr'
 ·by_cases hid:id=d
  ·subst hid
   rw[qaj]at hr
   injection hr with hr;subst hr
   intro hz
   have h1:=hh.zlt _ hz
   have h2:=hp.1
   grind
  ·rw[qam _ _ hid]at ho hr
   exact hh.zon id oo r ho hr p hp
 ·rw[hw];have:=hh.zlt b hb;grind
theorem Fr.alloc {F:Addr→Prop} {w0 w w':World} (hf:Fr F w0 w) (o:Obj) (hw:w'.heap=w.heap.push o) (ho:w'.os=w.os) (ht:w'.tape=w.tape) (hu:w'.output=w.output):Fr F w0 w':=by
 refine hf.trans (G:=F) ⟨ho,ht,hu,by grind,fun b hb=>.inl (by grind)⟩ (fun _ _ h=>h) (fun _ _ _ h=>h)
theorem SRel.new {c:Cx} {s:S} {a:Act} (hs:SRel c s Z γ a w) {d:Nat} {o:Ob} {cells:Array Value} {ty:TypeId} {fz:Nat×Nat} (hd:d<c.n) (hu:d ∉ s.u)
  (hsz:0<o.sz∨o.els=[]) (hfit:o.els.length * o.sz≤cells.size) (hlen:∀ e,e<o.els.length→(o.els.getD e []).length=o.sz) (hfz:cells.size≤fz.1∧o.sz≤1∨fz.2=0)
  (hrel:∀ e j,e<o.els.length→j<o.sz→AVRel w Z γ ((o.els.getD e []).getD j .top) (cells.getD (e * o.sz+j) undef)) (w':World) 
  (hw:w'.heap=w.heap.push (.cells cells ty fz)) (ho:w'.os=w.os) (ht:w'.tape=w.tape) (hou:w'.output=w.output) {v:AV} {u:Value}
  (hv:AVRel w' Z (upd γ d (some ⟨⟨w.heap.size,0,none⟩,cells.size,o.sz⟩)) v u) :
  SRel c ⟨upd s.t d v,upd s.h d (some o),Us.cons d s.u⟩ Z (upd γ d (some ⟨⟨w.heap.size,0,none⟩,cells.size,o.sz⟩)) (a.put (some d) u) w':=by
 have hg:γ d=none:=by
  cases hgd:γ d with
  | none=>rfl
  | some r=>exact absurd (hs.scp d r hgd) hu
 obtain⟨hh',hgm⟩:=hs.hp.new hg hsz hfit hlen hfz hrel w' hw
 have hold:∀ p:Addr,p.block<w.heap.size→w'.cell? p=w.cell? p:=by
  grind[World.cell?]
 have ht1:TRel w' Z (upd γ d (some ⟨⟨w.heap.size,0,none⟩,cells.size,o.sz⟩)) s.t a:=fun i=>((hs.tmp.same hs.hp.zlt hold) i).gmono hgm
 refine⟨ht1.put (by rw[hs.siz];omega) hv,by simp[Act.put,hs.siz],hs.dfr.step (fun D hD=>by
  grind),hh',hs.fr.alloc _ hw ho ht hou,fun id oo r hoo hr p hp=>?_,hs.z0,hs.z1,fun id r hr=>?_,hs.in0,hs.inp_u hu⟩
 ·by_cases hid:id=d
  ·subst hid
   rw[qaj]at hr
   injection hr with hr;subst hr
   left
   have:=hp.1
   rw[this];exact hs.fr.size
  ·simp only at hoo
   rw[qam _ _ hid]at hoo hr
   exact hs.own id oo r hoo hr p hp
 ·by_cases hid:id=d
  ·subst hid;exact .inl rfl
  ·rw[qam _ _ hid]at hr
   exact Or.inr (hs.scp id r hr)
end
end Go.Av

end
section
namespace Go.Av
open Go.RowKit
section
variable {P:Program} {w w':World} {Z:Addr→Prop} {γ:Gm} {h:Hp}
theorem Fr.setCell (w:World) (b o:Nat) (v:Value):Fr (fun p=>p.block=b∧p.off=o) w (w.setCell ⟨b,o,none⟩ v):=by
 refine⟨rfl,rfl,rfl,by simp,fun i hi=>?_⟩
 grind[World.setCell]
theorem Fr.setCells (b:Nat):∀ (vs:List Value) (o:Nat) (w:World),Fr (fun p=>p.block=b∧o≤p.off∧p.off<o+vs.length) w (w.setCells b o vs)
 | [],o,w=>Fr.refl _ _
 | v::r,o,w=>by
  refine(Fr.setCell w b o v).trans (Fr.setCells b r (o+1) _) (fun i j hp=>?_) (fun i j _ hp=>?_)
  all_goals grind
theorem size_setCells (b:Nat):∀ (vs:List Value) (o:Nat) (w:World),(w.setCells b o vs).heap.size=w.heap.size
 | [],_,_=>rfl
 | v::r,o,w=>by rw[World.setCells,size_setCells b r];simp
theorem ORel.keep {o:Ob} {r:Rg} (ho:ORel w Z γ o r) (hc:∀ k,k<r.n→w'.cell? (r.A.at k)=w.cell? (r.A.at k)∧w'.frozen? (r.A.at k)=w.frozen? (r.A.at k))
  (hz:∀ p:Addr,Z p→w'.cell? p=w.cell? p) (hp:∀ k,w'.frozen? ⟨r.A.block,k,none⟩=w.frozen? ⟨r.A.block,k,none⟩):ORel w' Z γ o r:=by
 refine⟨ho.spot,ho.sz,ho.fit,ho.len,fun k hk=>?_,fun e j he hj=>?_,fun h1 h2 k=>(hp k).trans (ho.pln h1 h2 k)⟩
 ·obtain⟨⟨v,hv⟩,hf⟩:=ho.live k hk
  grind
 ·obtain⟨v,hv,hr⟩:=ho.cell e j he hj
  have hlt:e * o.sz+j<r.n:=by
   have:(e+1) * o.sz≤o.els.length * o.sz:=Nat.mul_le_mul_right _ he
   have:=ho.fit
   grind
  exact⟨v,(hc _ hlt).1.trans hv,hr.world (fun _ h=>h) hz⟩
theorem HRel.write (hh:HRel w Z γ h) {id:Nat} {o o':Ob} {r:Rg} (hid:h id=some o) (hr:γ id=some r) (k:Nat) (vs:List Value) (hk:k+vs.length≤r.n) (hsz:o'.sz=o.sz) (hfit:o'.els.length * o'.sz≤r.n)
  (hlen:∀ e,e<o'.els.length→(o'.els.getD e []).length=o'.sz)
  (hrel:∀ e j,e<o'.els.length→j<o'.sz→∃ v,AVRel w Z γ ((o'.els.getD e []).getD j .top) v ∧
   ((k≤e * o.sz+j∧e * o.sz+j<k+vs.length∧vs[e * o.sz+j-k]?=some v)∨((e * o.sz+j<k∨k+vs.length≤e * o.sz+j)∧w.cell? (r.A.at (e * o.sz+j))=some v))) :
  HRel (w.setCells r.A.block (r.A.off+k) vs) Z γ (upd h id (some o'))∧(∀ p:Addr,Z p→(w.setCells r.A.block (r.A.off+k) vs).cell? p=w.cell? p):=by
 obtain⟨r1,hr1,hor⟩:=hh.obj id o hid
 rw[hr]at hr1;injection hr1 with hr1;subst hr1
 have hspot:=hor.spot
 have hcs:∀ j,j<vs.length→(w.cell? ⟨r.A.block,r.A.off+k+j,none⟩).isSome=true:=fun j hj=>by
  obtain⟨⟨v,hv⟩,_⟩:=hor.live (k+j) (by omega)
  grind[Addr.at]
 have hzz:∀ p:Addr,Z p→(w.setCells r.A.block (r.A.off+k) vs).cell? p=w.cell? p:=by
  intro p hp
  refine World.cell?_setCells_out _ _ _ _ _ fun hb hsp=>?_
  have hno:¬ r.has p:=fun hin=>hh.zon id o r hid hr p hin hp
  grind[Rg.has]
 refine⟨⟨fun id2 oo ho=>?_,fun id1 id2 o1 o2 s1 s2 hne h1 h2 g1 g2=>?_,fun id2 oo s hoo hs p hp=>?_,fun b hb=>by rw[size_setCells];exact hh.zlt b hb,hh.gl.world (fun _ h=>h) hzz⟩,hzz⟩
 ·by_cases hi:id2=id
  ·subst hi
   rw[qaj]at ho
   injection ho with ho;subst ho
   refine⟨r,hr,hspot,hor.sz.trans hsz.symm,hfit,hlen,fun j hj=>?_,fun e j he hj=>?_,fun h1 h2 j=>by rw[World.frozen?_setCells];exact hor.pln (by omega) h2 j⟩
   ·obtain⟨⟨v,hv⟩,hf⟩:=hor.live j hj
    refine⟨?_,by grind[World.frozen?_setCells]⟩
    by_cases hin:k≤j∧j<k+vs.length
    ·have:=World.cell?_setCells_in r.A.block vs (r.A.off+k) w hcs (j-k) (by omega)
     rw[show r.A.off+k+(j-k)=r.A.off+j by omega]at this
     exact⟨_,this⟩
    grind[World.cell?_setCells_out,Addr.at]
   ·obtain⟨v,hrv,hc⟩:=hrel e j he hj
    refine⟨v,?_,hrv.world (fun _ h=>h) hzz⟩
    grind[World.cell?_setCells_in,World.cell?_setCells_out,Addr.at]
  ·rw[qam _ _ hi]at ho
   obtain⟨r2,hr2,hor2⟩:=hh.obj id2 oo ho
   refine⟨r2,hr2,hor2.keep (fun j hj=>⟨?_,World.frozen?_setCells _ _ _ _ _⟩) hzz (fun j=>World.frozen?_setCells _ _ _ _ _)⟩
   have hap:=hh.dis id id2 o oo r r2 (Ne.symm hi) hid ho hr hr2
   grind[World.cell?_setCells_out,Rg.apart,Addr.at]
 ·have e1:∃ oo,h id1=some oo:=by
   grind[qam]
  have e2:∃ oo,h id2=some oo:=by
   grind[qam]
  obtain⟨oo1,e1⟩:=e1
  obtain⟨oo2,e2⟩:=e2
  exact hh.dis id1 id2 oo1 oo2 s1 s2 hne e1 e2 g1 g2
 ·by_cases hi:id2=id
  ·subst hi;exact hh.zon id2 o s hid hs p hp
  ·rw[qam _ _ hi]at hoo;exact hh.zon id2 oo s hoo hs p hp
theorem SRel.write {c:Cx} {s:S} {a:Act} (hs:SRel c s Z γ a w) {id:Nat} {o o':Ob} {r:Rg} (hid:s.h id=some o) (hr:γ id=some r) (k:Nat) (vs:List Value) (hk:k+vs.length≤r.n) (hsz:o'.sz=o.sz) (hfit:o'.els.length * o'.sz≤r.n)
  (hlen:∀ e,e<o'.els.length→(o'.els.getD e []).length=o'.sz)
  (hrel:∀ e j,e<o'.els.length→j<o'.sz→∃ v,AVRel w Z γ ((o'.els.getD e []).getD j .top) v ∧
   ((k≤e * o.sz+j∧e * o.sz+j<k+vs.length∧vs[e * o.sz+j-k]?=some v)∨((e * o.sz+j<k∨k+vs.length≤e * o.sz+j)∧w.cell? (r.A.at (e * o.sz+j))=some v))) :
  SRel c ⟨s.t,upd s.h id (some o'),s.u⟩ Z γ a (w.setCells r.A.block (r.A.off+k) vs):=by
 obtain⟨h1,h2⟩:=hs.hp.write hid hr k vs hk hsz hfit hlen hrel
 refine⟨fun i=>(hs.tmp i).world (fun _ h=>h) h2,hs.siz,hs.dfr.fr (Fr.setCells _ _ _ _),h1,?_,fun id2 oo s2 hoo hs2=>?_,hs.z0,hs.z1,hs.scp,hs.in0,hs.inp⟩
 ·refine hs.fr.trans (Fr.setCells _ _ _ _) (fun _ _ h=>h) (fun i j hi hin=>?_)
  simp only at hin
  rcases hs.own id o r hid hr ⟨i,j,none⟩ ⟨hin.1,by grind,by grind,rfl⟩with hx | hx
  all_goals grind
 ·by_cases hi:id2=id
  ·subst hi;exact hs.own id2 o s2 hid hs2
  ·simp only at hoo
   rw[qam _ _ hi]at hoo;exact hs.own id2 oo s2 hoo hs2
end
end Go.Av

end
section
namespace Go.Av
open Go.RowKit
def oneA:AV→Bool
 | .top=>false
 | .agg _=>false
 | .tup _=>false
 | _=>true
section
variable {P:Program} {w w':World} {Z:Addr→Prop} {γ:Gm} {h:Hp} {c:Cx} {s:S} {a:Act}
theorem oneA_one {av:AV} {v:Value} (hr:AVRel w Z γ av v) (h1:oneA av=true):v.oneCell'=true:=by
 cases hr <;> simp[oneA]at h1 <;> first | rfl | assumption
def Did (P:Program) (c:Cx) (a:Act) (w:World) (o:Oper) (s':S) (Z:Addr→Prop):Prop :=
 ∃ γ' w' x u,(execOp a.eval o).run P w=.ok x w'∧(x=.value u∨(x=.skip∧u=undef))∧SRel c s' Z γ' (a.put o.dst u) w'
def evNew (d:Nat) (s:S) (sz:Nat) (els:List (List AV)) (v:AV):S:=⟨upd s.t d v,upd s.h d (some ⟨sz,els⟩),Us.cons d s.u⟩
theorem did_var {ty:Nat} {i:TI} {cs:List AV} {v:Value} {d:Nat} {o:Oper} (hs:SRel c s Z γ a w) (hi:ttOf P ty=some i) (hc:CRel w Z γ cs v.cells) (hl:cs.length=i.size) (hd:d<c.n) (hu:d ∉ s.u) (hpos:0<i.size)
  (hod:o.dst=some d) (hrun:(execOp a.eval o).run P w=.ok (.value (.pointer (some ⟨w.heap.size,0,none⟩))) (w.alloc (.cells v.cells ty))) :
  Did P c a w o (evNew d s i.size [cs] (.ptr d 0 0)) Z:=by
 refine⟨upd γ d (some ⟨⟨w.heap.size,0,none⟩,v.cells.size,i.size⟩),w.alloc (.cells v.cells ty),.value (.pointer (some ⟨w.heap.size,0,none⟩)),.pointer (some ⟨w.heap.size,0,none⟩),hrun,.inl rfl,?_⟩
 rw[hod]
 refine SRel.new hs (o:=⟨i.size,[cs]⟩) (cells:=v.cells) (ty:=ty) (fz:=(0,0)) hd hu (.inl hpos) ?_ ?_ (.inr rfl) ?_ (w.alloc (.cells v.cells ty)) rfl rfl rfl rfl ?_
 ·simp[hc.1,hl]
 ·grind
 ·intro e j he hj
  have:e=0:=by grind
  subst this
  simpa using hc.2 j (by grind)
 ·have:=AVRel.ptr (w:=w.alloc (.cells v.cells ty)) (Z:=Z) (upd γ d (some ⟨⟨w.heap.size,0,none⟩,v.cells.size,i.size⟩)) d 0 0 ⟨⟨w.heap.size,0,none⟩,v.cells.size,i.size⟩ (qaj _ _ _)
  grind[Addr.at]
def evAlloc (P:Program) (s:S) (d ty:Nat):Option (Prop×S) :=
 match ttOf P ty with
 | some i=>some (d ∉ s.u∧i.zero.length=i.size∧0<i.size,evNew d s i.size [i.zero] (.ptr d 0 0))
 | none=>none
theorem evAlloc_sound (hs:SRel c s Z γ a w) {o:Oper} {d ty:Nat} (ho:o.op=.alloc ty) (hod:o.dst=some d) (hd:d<c.n) {p:Prop} {s':S} (he:evAlloc P s d ty=some (p,s')) (hp:p) :
  Did P c a w o s' Z:=by
 unfold evAlloc at he
 split at he
 ·rename_i i hi
  obtain⟨rfl,rfl⟩:=he
  obtain⟨dd,f,z,hdd,htd,hf,hsz,_,hz,hzz⟩:=qbp hi
  refine did_var hs hi (v:=z) (zero_crel hzz) hp.2.1 hd hp.1 hp.2.2 hod ?_
  simp_all[execOp,Instr.alloc,newVar,newRow,run_zero]
 grind
def evBox (P:Program) (s:S) (d ty:Nat) (x:AV):Option (Prop×S) :=
 match ttOf P ty,cellsO x with
 | some i,some cs=>some (d ∉ s.u∧cs.length=i.size∧0<i.size,evNew d s i.size [cs] (.ptr d 0 0))
 | _,_=>none
theorem evBox_sound (hs:SRel c s Z γ a w) {o:Oper} {d ty:Nat} {x:Operand} (ho:o.op=.box ty x) (hod:o.dst=some d) (hd:d<c.n) {p:Prop} {s':S} (he:evBox P s d ty (opd s.t x)=some (p,s')) (hp:p) :
  Did P c a w o s' Z:=by
 unfold evBox at he
 split at he
 ·rename_i i cs hi hcs
  obtain⟨rfl,rfl⟩:=he
  refine did_var hs hi (v:=a.eval x) ((hs.tmp.opd hs.hp.gl x).notAgg hcs) hp.2.1 hd hp.1 hp.2.2 hod ?_
  simp_all[execOp,Instr.box,newVar,newRow]
 grind
theorem did_row {e:Nat} {ie:TI} {els:List (List AV)} {cells:Array Value} {d cap:Nat} {fz:Nat×Nat} {o:Oper} {w':World} (hs:SRel c s Z γ a w) (hie:ttOf P e=some ie) (hd:d<c.n) (hu:d ∉ s.u) (hpos:0<ie.size)
  (hlen:∀ k,k<els.length→(els.getD k []).length=ie.size) (hcap:els.length≤cap) (hsz:cap * ie.size≤cells.size) (hfz:cells.size≤fz.1∧ie.size≤1∨fz.2=0)
  (hrel:∀ k j,k<els.length→j<ie.size→AVRel w Z γ ((els.getD k []).getD j .top) (cells.getD (k * ie.size+j) undef))
  (hod:o.dst=some d) (hrun:(execOp a.eval o).run P w=.ok (.value (.slice (some ⟨w.heap.size,0,none⟩) els.length cap)) w')
  (hw:w'.heap=w.heap.push (.cells cells e fz)) (hos:w'.os=w.os) (htp:w'.tape=w.tape) (hou:w'.output=w.output) :
  Did P c a w o (evNew d s ie.size els (.sl d 0 els.length)) Z:=by
 refine⟨upd γ d (some ⟨⟨w.heap.size,0,none⟩,cells.size,ie.size⟩),w',_,_,hrun,.inl rfl,?_⟩
 rw[hod]
 refine SRel.new hs (o:=⟨ie.size,els⟩) (cells:=cells) (ty:=e) (fz:=fz) hd hu (.inl hpos) ?_ hlen hfz hrel w' hw hos htp hou ?_
 ·exact Nat.le_trans (Nat.mul_le_mul_right _ hcap) hsz
 ·have:=AVRel.sl (w:=w') (Z:=Z) (upd γ d (some ⟨⟨w.heap.size,0,none⟩,cells.size,ie.size⟩)) d 0 els.length cap ⟨⟨w.heap.size,0,none⟩,cells.size,ie.size⟩ (qaj _ _ _) hcap (by grind)
  grind[Addr.at]
def setParts (els:List (List AV)):List (Nat×AV)→Option (List (List AV))
 | []=>some els
 | (i,v)::r=>match cellsO v with
  | some c=>setParts (els.set i c) r
  | none=>none
def partsOk (sz len:Nat):List (Nat×AV)→Prop
 | []=>True
 | (i,v)::r=>(match cellsO v with | some c=>c.length=sz∧i<len | none=>False)∧partsOk sz len r
def qbo (P:Program) (s:S) (d ty len:Nat) (parts:List (Nat×AV)):Option (Prop×S) :=
 match ttOf P ty with
 | some ⟨.slc e,_,_,_⟩=>match ttOf P e with
  | some ie=>match setParts (List.replicate len ie.zero) parts with
   | some els=>some (d ∉ s.u∧0<ie.size∧ie.zero.length=ie.size∧len * ie.size≤16777216∧partsOk ie.size len parts,evNew d s ie.size els (.sl d 0 len))
   | none=>none
  | none=>none
 | _=>none
def RRel (w:World) (Z:Addr→Prop) (γ:Gm) (sz:Nat) (els:List (List AV)) (cells:Array Value):Prop :=
 cells.size=els.length * sz∧(∀ k,k<els.length→(els.getD k []).length=sz) ∧
 ∀ k j,k<els.length→j<sz→AVRel w Z γ ((els.getD k []).getD j .top) (cells.getD (k * sz+j) undef)
theorem RRel.set {sz:Nat} {els:List (List AV)} {cells vs:Array Value} {c:List AV} {i:Nat} (hr:RRel w Z γ sz els cells) (hc:CRel w Z γ c vs) (hl:c.length=sz) (hi:i<els.length) :
  RRel w Z γ sz (els.set i c) (vs.zipIdx.foldl (fun cs (c,j)=>cs.setIfInBounds (i * sz+j) c) cells):=by
 rw[foldl_set_array]
 obtain⟨g1,g2⟩:=foldl_set_list (i * sz) vs.toList 0 cells
 have hvs:vs.toList.length=sz:=by rw[Array.length_toList,hc.1,hl]
 refine⟨by rw[g1,hr.1];simp,fun k hk=>?_,fun k j hk hj=>?_⟩
 ·simp only[List.length_set]at hk
  by_cases hki:k=i
  ·grind
  ·have:=hr.2.1 k hk
   grind
 ·simp only[List.length_set]at hk
  have hval:∀ (x:Value),((vs.toList.zipIdx 0).foldl (fun(cs:Array Value) (x:Value×Nat)=>cs.setIfInBounds (i * sz+x.2) x.1) cells)[k * sz+j]?=some x →
    (((vs.toList.zipIdx 0).foldl (fun(cs:Array Value) (x:Value×Nat)=>cs.setIfInBounds (i * sz+x.2) x.1) cells)).getD (k * sz+j) undef=x:=fun x hx=>by
   simp_all
  have hlek:k * sz+sz≤els.length * sz:=by
   have:(k+1) * sz≤els.length * sz:=Nat.mul_le_mul_right _ hk
   grind
  have hsize:=hr.1
  have hg:=g2 (k * sz+j)
  by_cases hki:k=i
  ·subst hki
   rw[if_pos (by omega)]at hg
   have hjv:j<vs.size:=by grind
   rw[hval (vs.getD j undef) (by simp_all[Array.getD])]
   have:((els.set k c).getD k []).getD j .top=c.getD j .top:=by grind
   rw[this]
   exact hc.2 j (by omega)
  ·have hne:¬ (i * sz+0≤k * sz+j∧k * sz+j<i * sz+0+vs.toList.length∧k * sz+j<cells.size):=by
    rintro⟨h1,h2,_⟩
    rcases Nat.lt_or_gt_of_ne hki with hlt | hgt
    ·have:(k+1) * sz≤i * sz:=Nat.mul_le_mul_right _ hlt
     grind
    ·have:(i+1) * sz≤k * sz:=Nat.mul_le_mul_right _ hgt
     grind
   rw[if_neg hne]at hg
   have hlt:k * sz+j<cells.size:=by omega
   rw[hval (cells.getD (k * sz+j) undef) (by simp_all[Array.getD])]
   have:((els.set i c).getD k []).getD j .top=(els.getD k []).getD j .top:=by grind
   rw[this]
   exact hr.2.2 k j hk hj
theorem fill_rows {sz len:Nat}:∀ (parts:List (Nat×AV)) (vparts:List (Nat×Value)) (els els':List (List AV)) (cells:Array Value),els.length=len→parts.length=vparts.length →
  (∀ (j:Nat) (a:Nat×AV) (b:Nat×Value),parts[j]?=some a→vparts[j]?=some b→a.1=b.1∧AVRel w Z γ a.2 b.2)→RRel w Z γ sz els cells→setParts els parts=some els'→partsOk sz len parts →
  ∃ res,Instr.fill (fun i=>some (i * sz,sz)) cells vparts=some res∧RRel w Z γ sz els' res∧els'.length=len
 | [],[],els,els',cells,hlen,_,_,hc,hf,_=>by
  simp only[setParts,Option.some.injEq]at hf
  subst hf
  exact⟨cells,rfl,hc,hlen⟩
 | (i,a)::rest,(i',v)::vrest,els,els',cells,hlen,hl,hr,hc,hf,hp=>by
  obtain⟨e1,e2⟩:=hr 0 _ _ rfl rfl
  subst e1
  simp only[setParts]at hf
  simp only[partsOk]at hp
  cases hcv:cellsO a with
  | none=>grind
  | some c =>
   simp only[hcv]at hf hp
   have hcv':=e2.notAgg hcv
   have hst:=hc.set hcv' hp.1.1 (i:=i) (by omega)
   obtain⟨res,h1,h2,h3⟩:=fill_rows rest vrest _ els' _ (by grind) (by grind) (fun j a b ha hb=>hr (j+1) a b (by grind) (by grind)) hst hf hp.2
   refine⟨res,?_,h2,h3⟩
   have h4:v.cells.size=sz:=by rw[hcv'.1,hp.1.1]
   have hle:i * sz+sz≤els.length * sz:=by
    have:(i+1) * sz≤els.length * sz:=Nat.mul_le_mul_right _ (by omega)
    grind
   simp only[Instr.fill]
   rw[if_neg (by simp[h4,hc.1];omega)]
   omega
 | [],_::_,_,_,_,_,hl,_,_,_,_=>by grind
 | _::_,[],_,_,_,_,hl,_,_,_,_=>by grind
theorem zero_rows {ie:TI} {z:Value} (hz:z.cells.toList.map av1=ie.zero) (hl:ie.zero.length=ie.size) (hpos:0<ie.size) (len:Nat) :
  RRel w Z γ ie.size (List.replicate len ie.zero) ((Array.range (len * ie.size)).map fun k=>z.cells[k % z.cells.size]!):=by
 have hzs:z.cells.size=ie.size:=by grind
 refine⟨by simp,fun k hk=>?_,fun k j hk hj=>?_⟩
 ·grind
 ·have hk':k<len:=by grind
  have hlek:k * ie.size+ie.size≤len * ie.size:=by
   have:(k+1) * ie.size≤len * ie.size:=Nat.mul_le_mul_right _ hk'
   grind
  have h1:((List.replicate len ie.zero).getD k [])=ie.zero:=by grind
  have h2:((Array.range (len * ie.size)).map fun k=>z.cells[k % z.cells.size]!).getD (k * ie.size+j) undef=z.cells.getD j undef:=by
   have hlt:k * ie.size+j<len * ie.size:=by omega
   simp_all[Nat.mod_eq_of_lt]
  rw[h1,h2]
  exact(zero_crel (w:=w) (Z:=Z) (γ:=γ) hz).2 j (by omega)
theorem evBuildSlice_sound (hs:SRel c s Z γ a w) {o:Oper} {d ty len:Nat} {parts:Array (Nat×Operand)} (ho:o.op=.buildSlice ty len parts) (hod:o.dst=some d) (hd:d<c.n) {p:Prop} {s':S}
  (he:qbo P s d ty len (parts.toList.map fun x=>(x.1,opd s.t x.2))=some (p,s')) (hp:p):Did P c a w o s' Z:=by
 unfold qbo at he
 split at he
 ·rename_i e sz b z0 ht
  split at he
  ·rename_i ie hie
   split at he
   ·rename_i els hels
    obtain⟨rfl,rfl⟩:=he
    obtain⟨hu,hpos,hzl,hbig,hpo⟩:=hp
    obtain⟨dd,f,z,hdd,htd,hf,hsz,_,hz,hzz⟩:=qbp hie
    obtain⟨res,h1,h2,h3⟩:=fill_rows (w:=w) (Z:=Z) (γ:=γ) (sz:=ie.size) (len:=len) (parts.toList.map fun(x:Nat×Operand)=>(x.1,opd s.t x.2)) (parts.map fun(x:Nat×Operand)=>(x.1,a.eval x.2)).toList
     (List.replicate len ie.zero) els _ (by simp) (by simp) (fun j x y hx hy=>by
      simp only[List.getElem?_map,Array.getElem?_toList,Array.getElem?_map]at hx hy
      cases hj:parts[j]? with
      | none=>grind
      | some q =>
       simp only[hj,Option.map_some,Option.some.injEq]at hx hy
       subst hx;subst hy
       exact⟨rfl,hs.tmp.opd hs.hp.gl _⟩) (zero_rows hzz hzl hpos len) hels hpo
    have hcap:els.length≤len:=by omega
    have:=did_row (cap:=len) (els:=els) (cells:=res) (fz:=(0,0)) (w':=w.alloc (.cells res e)) hs hie hd hu hpos h2.2.1 hcap (by rw[h2.1,h3];simp) (.inr rfl) h2.2.2 hod ?_ rfl rfl rfl rfl
    ·grind
    ·rw[h3]
     have hnz:¬ (len * ie.size > 2 ^ 24):=by omega
     have hfill:Instr.fill (fun i=>some (i * ie.size,ie.size)) ((Array.range (len * ie.size)).map fun k=>z.cells[k % z.cells.size]!) (parts.map fun(x:Nat×Operand)=>(x.1,a.eval x.2)).toList=some res:=h1
     by_cases h0:len * ie.size=0
     ·have e0:((Array.range (len * ie.size)).map fun k=>(#[]:Array Value)[k % (#[]:Array Value).size]!)=((Array.range (len * ie.size)).map fun k=>z.cells[k % z.cells.size]!):=by grind
      simp only[execOp,ho,Instr.buildSlice,Sem.run_bind,qaa (qau ht rfl),Result.andThen_ok,qas hie,if_neg hnz,if_pos h0,Sem.run_pure]
      rw[e0,hfill]
      rfl
     ·simp only[execOp,ho,Instr.buildSlice,Sem.run_bind,qaa (qau ht rfl),Result.andThen_ok,qas hie,if_neg hnz,if_neg h0,run_zero hf hz,Sem.run_pure]
      simp_all[newRow]
   grind
  grind
 grind
end
end Go.Av

end
section
namespace Go.Av
open Go.RowKit
section
variable {P:Program} {w w':World} {Z:Addr→Prop} {γ:Gm} {h:Hp} {c:Cx} {s:S} {a:Act}
theorem qao (n:Int) (h:-9223372036854775808≤n∧n≤9223372036854775807):IntKind.i64.wrap n=n:=by
 grind[IntWalk.i64_in]
def evMake (P:Program) (s:S) (d ty:Nat):AV→AV→Option (Prop×S)
 | .int _ l,.int _ c=>match ttOf P ty with
  | some ⟨.slc e,_,_,_⟩=>match ttOf P e with
   | some ie=>some (d ∉ s.u∧0<ie.size∧ie.zero.length=ie.size∧1≤ie.bytes∧0≤l∧l≤c∧c * ie.bytes≤140737488355328,evNew d s ie.size (List.replicate l.toNat ie.zero) (.sl d 0 l.toNat))
   | none=>none
  | _=>none
 | _,_=>none
theorem evMake_sound (hs:SRel c s Z γ a w) {o:Oper} {d ty:Nat} {x y:Operand} (ho:o.op=.makeSlice ty x y) (hod:o.dst=some d) (hd:d<c.n) {p:Prop} {s':S} (he:evMake P s d ty (opd s.t x) (opd s.t y)=some (p,s')) (hp:p) :
  Did P c a w o s' Z:=by
 have hx:=hs.tmp.opd hs.hp.gl x
 have hy:=hs.tmp.opd hs.hp.gl y
 unfold evMake at he
 split at he
 ·rename_i k1 l k2 c e1 e2
  rw[e1]at hx
  rw[e2]at hy
  generalize hxv:a.eval x=xv at hx
  generalize hyv:a.eval y=yv at hy
  cases hx;cases hy
  split at he
  ·rename_i e sz b z0 ht
   split at he
   ·rename_i ie hie
    obtain⟨rfl,rfl⟩:=he
    obtain⟨hu,hpos,hzl,hby,hl0,hlc,hbig⟩:=hp
    obtain⟨dd,f,z,hdd,htd,hf,hsz,hbb,hz,hzz⟩:=qbp hie
    have hc0:0≤c:=by omega
    have hcb:c≤c * ie.bytes:=by
     have:c * 1≤c * (ie.bytes:Int):=Int.mul_le_mul_of_nonneg_left (by omega) hc0
     omega
    have hwl:IntKind.i64.wrap l=l:=qao _ (by omega)
    have hwc:IntKind.i64.wrap c=c:=qao _ (by omega)
    have hrr:=zero_rows (w:=w) (Z:=Z) (γ:=γ) hzz hzl hpos l.toNat
    have hrc:=zero_rows (w:=w) (Z:=Z) (γ:=γ) hzz hzl hpos c.toNat
    have hcells:((Array.range (c.toNat * ie.size)).map fun k=>((if c.toNat * ie.size=0 then #[] else z.cells):Array Value)[k % ((if c.toNat * ie.size=0 then #[] else z.cells):Array Value).size]!)=((Array.range (c.toNat * ie.size)).map fun k=>z.cells[k % z.cells.size]!):=by
     by_cases h0:c.toNat * ie.size=0
     ·simp[h0]
     ·simp only[if_neg h0]
    have:=did_row (cap:=c.toNat) (els:=List.replicate l.toNat ie.zero) (cells:=(Array.range (c.toNat * ie.size)).map fun k=>z.cells[k % z.cells.size]!) (fz:=(0,0)) (w':=w.alloc (.cells ((Array.range (c.toNat * ie.size)).map fun k=>z.cells[k % z.cells.size]!) e)) (o:=o)
     hs hie hd hu hpos hrr.2.1 (by grind) (by simp) (.inr rfl) (fun k j hk hj=>by
      have hk':k<l.toNat:=by grind
      have:=hrc.2.2 k j (by grind) hj
      grind) hod ?_ rfl rfl rfl rfl
    ·grind
    ·rw[List.length_replicate]
     have hn1:¬ (c<0):=by omega
     have hn2:¬ ((f.bytes:Int) * c > 2 ^ 48):=by
      grind
     have hn3:¬ (l<0):=by omega
     have hn4:¬ (l > c):=by omega
     simp only[execOp,ho,hxv,hyv,Instr.makeSlice,Sem.run_bind,qaa (qau ht rfl),Result.andThen_ok,asInt,asIntOf,Sem.run_pure,run_typeInfo hf,hwl,hwc]
     simp only[hn1,hn2,hn3,hn4,decide_false,Bool.or_false,Bool.false_eq_true,if_false,run_askRoom,Result.andThen_ok,qas hie,Sem.run_bind]
     by_cases h0:c.toNat * ie.size=0
     all_goals simp_all[Array.range,newRow,run_zero]
   grind
  grind
 grind
def evStore (P:Program) (s:S) (ty:Nat) (p v:AV):Option (Prop×S) :=
 match p with
 | .ptr id e off=>match s.h id,ttOf P ty,cellsO v with
  | some o,some i,some cs=>some (cs.length=i.size∧cs.all oneA=true∧e<o.els.length∧off+i.size≤o.sz,⟨s.t,upd s.h id (some ⟨o.sz,o.els.set e (splice (o.els.getD e []) off cs)⟩),s.u⟩)
  | _,_,_=>none
 | _=>none
theorem splice_length {cs c:List AV} {off:Nat} (h:off+c.length≤cs.length):(splice cs off c).length=cs.length:=by grind[splice]
theorem splice_getD {cs c:List AV} {off:Nat} (h:off+c.length≤cs.length) (j:Nat) :
  (splice cs off c).getD j .top=if off≤j∧j<off+c.length then c.getD (j-off) .top else cs.getD j .top:=by
 grind[splice,List.getElem?_append_right]
theorem row_lt {e j sz len n:Nat} (he:e<len) (hj:j<sz) (hf:len * sz≤n):e * sz+j<n:=by
 have:(e+1) * sz≤len * sz:=Nat.mul_le_mul_right _ he
 grind
theorem row_inj {e e' j j' sz:Nat} (hj:j<sz) (hj':j'<sz) (h:e * sz+j=e' * sz+j'):e=e'∧j=j':=by
 have h1:e=e':=by
  rcases Nat.lt_trichotomy e e' with hlt | heq | hgt
  ·have:(e+1) * sz≤e' * sz:=Nat.mul_le_mul_right _ hlt
   grind
  ·omega
  ·have:(e'+1) * sz≤e * sz:=Nat.mul_le_mul_right _ hgt
   grind
 grind
theorem evStore_sound (hs:SRel c s Z γ a w) {o:Oper} {ty:Nat} {x y:Operand} (ho:o.op=.store ty x y) (hod:o.dst=none) {p:Prop} {s':S} (he:evStore P s ty (opd s.t x) (opd s.t y)=some (p,s')) (hp:p) :
  Did P c a w o s' Z:=by
 have hx:=hs.tmp.opd hs.hp.gl x
 have hy:=hs.tmp.opd hs.hp.gl y
 unfold evStore at he
 split at he
 ·rename_i id e off e1
  rw[e1]at hx
  generalize hxv:a.eval x=xv at hx
  cases hx with
  | ptr _ _ _ _ r hg =>
  split at he
  ·rename_i ob i cs hid hi hcs
   simp only[Option.some.injEq,Prod.mk.injEq]at he
   obtain⟨rfl,rfl⟩:=he
   obtain⟨hl,hone,hel,hoff⟩:=hp
   have hcr:=hy.notAgg hcs
   obtain⟨r',hr',hor⟩:=hs.hp.obj id ob hid
   rw[hg]at hr';injection hr' with hr';subst hr'
   have hvl:(a.eval y).cells.toList.length=i.size:=by rw[Array.length_toList,hcr.1,hl]
   have hlene:=hor.len e hel
   have hle:e * ob.sz+ob.sz≤r.n:=by
    have:(e+1) * ob.sz≤ob.els.length * ob.sz:=Nat.mul_le_mul_right _ hel
    have:=hor.fit
    grind
   have hone':∀ v∈(a.eval y).cells.toList,v.oneCell'=true:=by
    intro v hv
    obtain⟨j,hj,rfl⟩:=List.getElem_of_mem hv
    have hj':j<cs.length:=by omega
    have hr:=hcr.2 j hj'
    have hjs:j<(a.eval y).cells.size:=by omega
    have e2:(a.eval y).cells.getD j undef=(a.eval y).cells.toList[j]:=by simp_all
    grind[oneA_one]
   refine⟨γ,w.setCells r.A.block (r.A.off+(e * ob.sz+off)) (a.eval y).cells.toList,.skip,undef,?_,.inr ⟨rfl,rfl⟩,?_⟩
   ·have hst:=run_storeCells_cells (P:=P) r.A.block (r.A.off+(e * ob.sz+off)) (a.eval y).cells.toList 0 w (fun j hj=>by
      obtain⟨⟨v,hv⟩,_⟩:=hor.live (e * ob.sz+off+j) (by omega)
      grind[Addr.at]) (fun j hj=>by
      obtain⟨_,hf⟩:=hor.live (e * ob.sz+off+j) (by omega)
      grind[Addr.at]) hone'
    simp only[Nat.add_zero]at hst
    have hsz:(a.eval y).cells.size=i.size:=by omega
    simp only[execOp,ho,hxv,Instr.storeAt,Instr.sureAddr,storeVar,Sem.run_bind,Sem.run_pure,Result.andThen_ok,qas hi,hsz,ne_eq,not_true_eq_false,if_false,Addr.at,hor.sz,hst]
   ·rw[hod]
    refine SRel.write hs hid hg (e * ob.sz+off) (a.eval y).cells.toList (by omega) rfl ?_ ?_ ?_
    ·simpa using hor.fit
    ·intro k hk
     simp only[List.length_set]at hk
     by_cases hke:k=e
     ·grind[splice_length]
     ·have:=hor.len k hk
      grind
    ·intro k j hk hj
     simp only[List.length_set]at hk
     simp only at hj
     by_cases hke:k=e
     ·subst hke
      have hg2:((ob.els.set k (splice (ob.els.getD k []) off cs)).getD k [])=splice (ob.els.getD k []) off cs:=by grind
      simp only[hg2]
      rw[splice_getD (by omega)]
      split
      ·rename_i hin
       have hjv:j-off<(a.eval y).cells.size:=by grind
       refine⟨(a.eval y).cells.getD (j-off) undef,hcr.2 _ (by omega),.inl ⟨by omega,by omega,?_⟩⟩
       rw[show k * ob.sz+j-(k * ob.sz+off)=j-off by omega]
       simp_all
      ·rename_i hout
       obtain⟨v,hv,hr⟩:=hor.cell k j hk hj
       grind
     ·have hg2:((ob.els.set e (splice (ob.els.getD e []) off cs)).getD k [])=ob.els.getD k []:=by grind
      simp only[hg2]
      obtain⟨v,hv,hr⟩:=hor.cell k j hk hj
      refine⟨v,hr,.inr ⟨?_,hv⟩⟩
      rcases Nat.lt_or_gt_of_ne hke with hlt | hgt
      ·have:(k+1) * ob.sz≤e * ob.sz:=Nat.mul_le_mul_right _ hlt
       grind
      ·have:(e+1) * ob.sz≤k * ob.sz:=Nat.mul_le_mul_right _ hgt
       grind
  grind
 grind
def evBytes (P:Program) (s:S) (d src dst:Nat):AV→Option (Prop×S)
 | .str b=>match ttOf P src,ttOf P dst with
  | some ⟨.str,_,_,_⟩,some ⟨.slc e,_,_,_⟩=>match ttOf P e with
   | some ⟨.int .u8,1,_,_⟩=>some (d ∉ s.u,evNew d s 1 (b.map fun c=>[.int .u8 c.toNat]) (.sl d 0 b.length))
   | _=>none
  | _,_=>none
 | _=>none
theorem evBytes_sound (hs:SRel c s Z γ a w) {o:Oper} {d src dst:Nat} {x:Operand} (ho:o.op=.convert src dst x) (hod:o.dst=some d) (hd:d<c.n) {p:Prop} {s':S} (he:evBytes P s d src dst (opd s.t x)=some (p,s')) (hp:p) :
  Did P c a w o s' Z:=by
 have hx:=hs.tmp.opd hs.hp.gl x
 unfold evBytes at he
 split at he
 ·rename_i b e1
  rw[e1]at hx
  generalize hxv:a.eval x=xv at hx
  cases hx
  split at he
  ·rename_i sz1 by1 z1 e sz2 by2 z2 hsrc hdst
   split at he
   ·rename_i by3 z3 hie
    obtain⟨rfl,rfl⟩:=he
    have hrun:=Go.Lib.run_convert_string_bytes (P:=P) w src dst e ⟨b.toArray⟩ (tt_str hsrc rfl) (qau hdst rfl) (tt_int hie rfl)
    have hheap:(Go.Lib.bytesWorld w e ⟨b.toArray⟩).heap=w.heap.push (.cells (Go.Lib.bytesCells w e ⟨b.toArray⟩) e ((Go.Lib.bytesCells w e ⟨b.toArray⟩).size,(Go.Lib.bytesCells w e ⟨b.toArray⟩).size+1)):=by
     apply Array.ext_getElem?
     grind[Go.Lib.bytesWorld_at_old,Go.Lib.bytesWorld_at_new,Go.Lib.bytesWorld_size]
    have hcapb:b.length≤grownCap w (ByteArray.mk b.toArray).size 0 e:=by
     simp[grownCap,bytes_size,Question.cut]
    have hcsz:(Go.Lib.bytesCells w e ⟨b.toArray⟩).size=grownCap w (ByteArray.mk b.toArray).size 0 e:=by
     grind[Go.Lib.bytesCells,bytes_size]
    have:=did_row (P:=P) (cap:=grownCap w (ByteArray.mk b.toArray).size 0 e) (els:=b.map fun c=>[AV.int .u8 c.toNat]) (cells:=Go.Lib.bytesCells w e ⟨b.toArray⟩) (fz:=((Go.Lib.bytesCells w e ⟨b.toArray⟩).size,(Go.Lib.bytesCells w e ⟨b.toArray⟩).size+1))
     (w':=Go.Lib.bytesWorld w e ⟨b.toArray⟩) (o:=o) (d:=d) hs hie hd hp (by simp) (fun k hk=>by
      grind) (by grind) (by grind) (.inl (And.intro (Nat.le_refl _) (Nat.le_refl _))) (fun k j hk hj=>by
      have hk':k<b.length:=by grind
      have hj':j=0:=by grind
      subst hj'
      have h1:(((b.map fun c=>[AV.int .u8 c.toNat]).getD k []).getD 0 .top)=.int .u8 (b.getD k 0).toNat:=by grind
      have h2:(Go.Lib.bytesCells w e ⟨b.toArray⟩).getD (k * 1+0) undef=.int .u8 (b.getD k 0).toNat:=by
       simp_all[Go.Lib.bytesCells,Array.getElem?_append]
      rw[h1,h2]
      exact .int _ _ _) hod ?_ hheap rfl rfl rfl
    all_goals grind[execOp,Sem.run_bind,Result.andThen_ok,Sem.run_pure,bytes_size]
   grind
  grind
 grind
end
end Go.Av

end
