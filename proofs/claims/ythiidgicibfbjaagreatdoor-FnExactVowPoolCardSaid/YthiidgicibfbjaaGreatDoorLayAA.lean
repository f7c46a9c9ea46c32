/- Lemmas for the proof, no statement of the seat; no conditions. -/
import Derived.Orders
import Derived.Still
import Derived.Tactics
import Derived.Below
import Derived.Laws.IdiomCopy
import Derived.Laws.Cells
import Derived.Laws.Strings
import Derived.Laws.Shifts
import Derived.Laws.BytesString
import Derived.Laws.ResultCell
import Derived.Laws.Strings2
import Derived.Laws.StructEq
import Derived.ChangeKeysEq
set_option linter.unusedSimpArgs false
set_option linter.unusedVariables false
set_option linter.unnecessarySimpa false
set_option maxRecDepth 100000
set_option maxHeartbeats 400000
section
set_option linter.defProp false
namespace Go.Av
def qFL:=@Ne.symm
def qFM:=@Nat.le_refl
def qFN:=@Nat.le_trans
def qFO:=@Nat.lt_of_lt_of_le
def qFP:=@Array.ext_getElem?
def qFQ:=@Option.some.injEq
def qFR:=@Prod.mk.injEq
def qFS:=@Classical.choose_spec
def qFT:=@List.length_take
def qFU:=@List.length_drop
def qFV:=@List.getElem?_take
def qFW:=@Nat.add_mul
def qFX:=@Option.map_some
def qFY:=@Bool.false_eq_true
def qFZ:=@List.length_pos_iff
def qF0:=@Nat.mul_le_mul_right
def qF1:=@Array.getD_eq_getD_getElem?
def qF2:=@Array.getElem?_extract
def qF3:=@List.getElem?_eq_getElem
def qF4:=@List.getElem?_toArray
def qF5:=@List.getElem?_cons_zero
def qF6:=@Bool.and_assoc
def qF7:=@List.drop_eq_getElem_cons
def qF8:=@List.take_succ_cons
def qF9:=@List.take_zero
def qGa:=@Bool.and_true
def qGb:=@List.drop_of_length_le
def qGc:=@List.drop_drop
def qGd:=@Nat.one_mul
def qGe:=@Nat.zero_le
def qGf:=@List.all_eq_true
def qGg:=@List.mem_range
def qGh:=@List.take_of_length_le
def qGi:=@Nat.le_of_eq
def qGj:=@List.foldl_cons
def qGk:=@List.length_cons
def qGl:=@List.getElem?_cons_succ
def qGm:=@Array.getElem?_setIfInBounds
def qGn:=@Array.length_toList
def qGo:=@List.getD_eq_getElem?_getD
def qGp:=@List.getElem?_append_right
def qGq:=@List.getElem?_append_left
def qGr:=@List.getElem?_drop
def qGs:=@List.map_cons
def qGt:=@List.mem_map
def qGu:=@Option.isSome_iff_exists
def qGv:=@Array.mapM_eq_mapM_toList
def qGw:=@List.getElem?_map
def qGx:=@Bool.not_eq_true'
def qGy:=@List.getElem?_eq_some_iff
def qGz:=@List.getElem_mem
def qGA:=@List.map_map
def qGB:=@List.getD_cons_zero
def qGC:=@List.nil_append
def qGD:=@List.map_congr_left
def qGE:=@Array.toList_inj
def qGF:=@Array.getElem?_map
def qGG:=@Array.getElem?_toList
def qGH:=@Iff.rfl
def qGI:=@List.nodup_nil
def qGJ:=@Array.getElem?_eq_some_iff
def qGK:=@Array.getElem?_setIfInBounds_ne
def qGL:=@Array.getElem?_push
def qGM:=@Bool.and_eq_false_iff
def qGN:=@Array.getElem?_modify
def qGO:=@Nat.lt_or_ge
def qGP:=@List.length_set
def qGQ:=@List.getElem?_set_ne
def qGR:=@Nat.lt_or_gt_of_ne
def qGS:=@Nat.mul_comm
def qGT:=@Nat.mod_eq_of_lt
def qGU:=@Option.getD_some
def qGV:=@List.length_replicate
def qGW:=@Nat.lt_trichotomy
def qGX:=@List.getElem_of_mem
def qGY:=@Nat.add_zero
def qGZ:=@List.getElem?_set
def qG0:=@Array.getElem?_eq_none
def qG1:=@Array.size_append
def qG2:=@Array.size_map
def qG3:=@Array.getElem?_append
def qG4:=@List.length_map
def qG5:=@Nat.sub_mul
def qG6:=@Nat.eq_zero_or_pos
def qG7:=@Nat.div_lt_iff_lt_mul
def qG8:=@Nat.mod_lt
def qG9:=@Nat.div_add_mod
def qHa:=@Nat.le_mul_of_pos_right
def qHb:=@Bool.not_false
def qHc:=@Nat.zero_add
def qHd:=@Array.getElem?_append_left
def qHe:=@List.length_append
def qHf:=@List.length_nil
def qHg:=@List.drop_append_of_le_length
def qHh:=@List.drop_take
def qHi:=@Nat.min_eq_left
def qHj:=@List.take_take
def qHk:=@List.eq_of_mem_replicate
def qHl:=@List.mem_cons_of_mem
def qHm:=@List.all_cons
def qHn:=@List.getD_cons_succ
def qHo:=@Nat.add_comm
def qHp:=@List.nodup_cons
def qHq:=@List.mem_cons
def qHr:=@Nat.zero_mul
def qHs:=@List.mem_append
def qHt:=@List.getElem?_append
def qHu:=@Option.bind_some
def qHv:=@List.mem_append_left
def qHw:=@List.cons.injEq
def qHx:=@List.getElem?_eq_none
def qHy:=@Bool.or_eq_true
def qHz:=@List.not_mem_nil
def qHA:=@List.mem_erase_of_ne
def qHB:=@Option.isNone_iff_eq_none
def qHC:=@List.contains_eq_mem
def qHD:=@List.any_eq_true
def qHE:=@Option.map_eq_some_iff
def qHF:=@List.map_nil
def qHG:=@List.getElem?_replicate
def qHH:=@Array.ext
def qHI:=@Classical.byContradiction
def qHJ:=@Array.getElem?_eq_getElem
def qHK:=@List.getElem?_set_self
def qHL:=@List.drop_eq_nil_of_le
def qHM:=@List.eq_nil_of_length_eq_zero
def qHN:=@List.take_add_one
def qHO:=@List.all_append
def qHP:=@List.mem_of_mem_take
def qHQ:=@Function.comp_def
def qHR:=@Nat.le_of_lt
def qHS:=@List.cons_append
def qHT:=@List.mem_of_getElem?
def qHU:=@List.all_eq_false
def qHV:=@UInt8.lt_iff_toNat_lt
def qHW:=@List.take_length
def qHX:=@List.take_append_drop
def qHY:=@List.mem_iff_getElem
def qHZ:=@Std.lt_irrefl
def qH0:=@Std.lt_trans
def qH1:=@List.map_take
def qH2:=@List.any_cons
def qH3:=@List.set_eq_take_append_cons_drop
def qH4:=@List.map_append
def qH5:=@List.map_set
def qH6:=@List.append_nil
def qH7:=@UInt8.lt_irrefl
def qH8:=@Int.fdiv_eq_ediv_of_nonneg
def qH9:=@List.findIdx?_cons
def qIa:=@List.findIdx?_eq_none_iff
def qIb:=@UInt8.toNat_inj
def qIc:=@List.any_eq_false
def qId:=@List.not_all_eq_any_not
def qIe:=@Bool.true_and
def qIf:=@List.take_append_of_le_length
def qIg:=@Nat.min_self
def qIh:=@List.mem_of_mem_drop
def qIi:=@List.mem_or_eq_of_mem_set
def qIj:=@Bool.eq_iff_iff
def qIk:=@List.countP_cons
def qIl:=@List.countP_le_length
def qIm:=@List.pairwise_iff_getElem
def qIn:=@List.flatMap_cons
def qIo:=@List.mem_flatMap
def qIp:=@List.ext_getElem?
def qIq:=@List.getElem?_take_of_lt
def qIr:=@List.takeWhile_cons
def qIs:=@List.takeWhile_prefix
def qIt:=@Option.some.inj
def qIu:=@List.countP_append
def qIv:=@List.sum_cons
def qIw:=@List.find?_eq_none
def qIx:=@List.mem_singleton
def qIy:=@Int.tmod_eq_emod_of_nonneg
def qIz:=@Int.tdiv_eq_ediv_of_nonneg
def qIA:=@UInt8.toNat_ofNat'
def qIB:=@List.length_singleton
def qIC:=@List.head?_cons
def qID:=@List.tail_cons
def qIE:=@Nat.pow_le_pow_right
def qIF:=@Nat.pow_succ
def qIG:=@List.set_eq_of_length_le
def qIH:=@List.all_nil
def qII:=@List.mem_reverse
def qIJ:=@List.mem_of_find?_eq_some
def qIK:=@Option.map_none
def qIL:=@Option.getD_none
def qIM:=@Option.map_map
def qIN:=@Option.bind_map
def qIO:=@Int.not_le
def qIP:=@List.length_flatMap
def qIQ:=@List.countP_nil
def qIR:=@List.take_left'
def qIS:=@List.take_set_of_le
def qIT:=@List.headD_cons
def qIU:=@List.drop_set_of_lt
def qIV:=@List.set_cons_succ
def qIW:=@List.mem_iff_getElem?
def qIX:=@List.getElem?_eq_none_iff
def qIY:=@List.filter_eq_self
def qIZ:=@List.drop_eq_getElem?_toList_append
def qI0:=@List.pairwise_cons
def qI1:=@List.pairwise_append
def qI2:=@Bool.false_and
def qI3:=@List.set_append_right
def qI4:=@List.flatMap_append
def qI5:=@List.getElem?_of_mem
end Go.Av
namespace Go.Av
open Go.RowKit
inductive AV where
 | top
 | int (k:IntKind) (n:Int)
 | bool (b:Bool)
 | str (s:List UInt8)
 | nilp
 | nils
 | nili
 | ifc
 | anyb
 | agg (cs:List AV)
 | tup (vs:List AV)
 | ptr (id e off:Nat)
 | sl (id e len:Nat)
 | lst (sz:Nat) (els:List (List AV))
 | elm (cs:List AV)
 | fn (f:Nat) (cap:List AV)
 | bsl (id e off esz n:Nat)
 | slc (id e len cap:Nat)
deriving Inhabited
structure Ob where
 sz:Nat
 els:List (List AV)
abbrev Tm:=Nat→AV
abbrev Hp:=Nat→Option Ob
def upd {α:Type} (f:Nat→α) (d:Nat) (v:α):Nat→α:=fun i=>if i=d then v else f i
theorem qat {α:Type} (f:Nat→α) (d:Nat) (v:α):upd f d v d=v:=if_pos rfl
theorem qay {α:Type} (f:Nat→α) {d i:Nat} (v:α) (h:i≠d):upd f d v i=f i:=if_neg h
theorem qcw {α:Type} (f:Nat→α) {d e:Nat} (v u:α) (h:d≠e):upd (upd f d v) e u=upd (upd f e u) d v:=by
 funext i;unfold upd;split <;> split <;> simp_all
structure Rg where
 A:Addr
 n:Nat
 sz:Nat
def _root_.Go.Addr.at (A:Addr) (k:Nat):Addr:=⟨A.block,A.off+k,none⟩
abbrev Gm:=Nat→Option Rg
def noG:Gm:=fun _=>none
inductive AVRel (w:World) (Z:Addr→Prop):Gm→AV→Value→Prop
 | top (γ:Gm) (v:Value):AVRel w Z γ .top v
 | int (γ:Gm) (k:IntKind) (n:Int):AVRel w Z γ (.int k n) (.int k n)
 | bool (γ:Gm) (b:Bool):AVRel w Z γ (.bool b) (.bool b)
 | str (γ:Gm) (s:List UInt8):AVRel w Z γ (.str s) (.string ⟨s.toArray⟩)
 | nilp (γ:Gm):AVRel w Z γ .nilp (.pointer none)
 | nils (γ:Gm):AVRel w Z γ .nils (.slice none 0 0)
 | nili (γ:Gm):AVRel w Z γ .nili .nilIface
 | ifc (γ:Gm) (t:TypeId) (v:Value):AVRel w Z γ .ifc (.iface t v)
 | anyb (γ:Gm) (b:Bool):AVRel w Z γ .anyb (.bool b)
 | agg (γ:Gm) (cs:List AV) (vs:Array Value) (hs:vs.size=cs.length)
   (hr:∀ j,j<cs.length→AVRel w Z γ (cs.getD j .top) (vs.getD j undef)):AVRel w Z γ (.agg cs) (.agg vs)
 | tup (γ:Gm) (cs:List AV) (vs:Array Value) (hs:vs.size=cs.length)
   (hr:∀ j,j<cs.length→AVRel w Z γ (cs.getD j .top) (vs.getD j undef)):AVRel w Z γ (.tup cs) (.tuple vs)
 | ptr (γ:Gm) (id e off:Nat) (r:Rg) (hg:γ id=some r):AVRel w Z γ (.ptr id e off) (.pointer (some (r.A.at (e * r.sz+off))))
 | sl (γ:Gm) (id e len cap:Nat) (r:Rg) (hg:γ id=some r) (hl:len≤cap) (hc:(e+cap) * r.sz≤r.n) :
   AVRel w Z γ (.sl id e len) (.slice (some (r.A.at (e * r.sz))) len cap)
 | sl0 (γ:Gm) (id e:Nat) (a:Option Addr):AVRel w Z γ (.sl id e 0) (.slice a 0 0)
 | lst (γ:Gm) (sz:Nat) (els:List (List AV)) (a:Option Addr) (cap:Nat) (vf:Nat→Nat→Value) (hl:els.length≤cap)
   (hc:els≠[]→∃ A,a=some A∧(∀ i j,i<els.length→j<sz→Z (A.at (i * sz+j)))∧A.spot=none∧∀ i j,i<els.length→j<sz→w.cell? (A.at (i * sz+j))=some (vf i j))
   (hs:∀ i,i<els.length→(els.getD i []).length=sz)
   (hr:∀ i j,i<els.length→j<sz→AVRel w Z noG ((els.getD i []).getD j .top) (vf i j)):AVRel w Z γ (.lst sz els) (.slice a els.length cap)
 | elm (γ:Gm) (cs:List AV) (A:Addr) (vf:Nat→Value) (hA:A.spot=none) (hz:∀ j,j<cs.length→Z (A.at j))
   (hc:∀ j,j<cs.length→w.cell? (A.at j)=some (vf j))
   (hr:∀ j,j<cs.length→AVRel w Z noG (cs.getD j .top) (vf j)):AVRel w Z γ (.elm cs) (.pointer (some A))
 | bsl (γ:Gm) (id e off esz n:Nat) (r:Rg) (hg:γ id=some r):AVRel w Z γ (.bsl id e off esz n) (.slice (some (r.A.at (e * r.sz+off))) n n)
 | slc (γ:Gm) (id e len cap:Nat) (r:Rg) (hg:γ id=some r) (hl:len≤cap) (hc:(e+cap) * r.sz≤r.n) :
   AVRel w Z γ (.slc id e len cap) (.slice (some (r.A.at (e * r.sz))) len cap)
 | slc0 (γ:Gm) (id e:Nat) (a:Option Addr):AVRel w Z γ (.slc id e 0 0) (.slice a 0 0)
 | fn (γ:Gm) (f:Nat) (cs:List AV) (vs:Array Value) (hs:vs.size=cs.length)
   (hr:∀ j,j<cs.length→AVRel w Z γ (cs.getD j .top) (vs.getD j undef)):AVRel w Z γ (.fn f cs) (.func (.func f) #[] vs)
theorem AVRel.world {w w':World} {Z Z':Addr→Prop} (hZ:∀ b,Z b→Z' b) (hw:∀ p:Addr,Z p→w'.cell? p=w.cell? p)
  {γ:Gm} {av:AV} {v:Value} (h:AVRel w Z γ av v):AVRel w' Z' γ av v:=by
 induction h with
 | top=>exact .top _ _
 | int=>exact .int _ _ _
 | bool=>exact .bool _ _
 | str=>exact .str _ _
 | nilp=>exact .nilp _
 | nils=>exact .nils _
 | nili=>exact .nili _
 | ifc=>exact .ifc _ _ _
 | anyb=>exact .anyb _ _
 | agg γ cs vs hs _ ih=>exact .agg _ _ _ hs ih
 | tup γ cs vs hs _ ih=>exact .tup _ _ _ hs ih
 | ptr γ id e off r hg=>exact .ptr _ _ _ _ r hg
 | sl γ id e len cap r hg hl hc=>exact .sl _ _ _ _ _ r hg hl hc
 | bsl γ id e off esz n r hg=>exact .bsl _ _ _ _ _ _ r hg
 | sl0=>exact .sl0 _ _ _ _
 | slc γ id e len cap r hg hl hc=>exact .slc _ _ _ _ _ r hg hl hc
 | slc0=>exact .slc0 _ _ _ _
 | lst γ sz els a cap vf hl hc hs _ ih =>
  refine .lst _ _ _ _ _ vf hl (fun hn=>?_) hs ih;obtain⟨A,ha,hz,hA,hcell⟩:=hc hn;exact⟨A,ha,fun i j hi hj=>hZ _ (hz i j hi hj),hA,fun i j hi hj=>(hw (A.at _) (hz i j hi hj)).trans (hcell i j hi hj)⟩
 | elm γ cs A vf hA hz hc _ ih=>exact .elm _ _ _ vf hA (fun j hj=>hZ _ (hz j hj)) (fun j hj=>(hw (A.at _) (hz j hj)).trans (hc j hj)) ih
 | fn γ f cs vs hs _ ih=>exact .fn _ _ _ _ hs ih
inductive Plc where
 | whole (id:Nat)
 | sub (id e off n:Nat)
mutual
def ren (ρ:Nat→Option Plc):AV→AV
 | .ptr c e o=>match ρ c with
  | some (.whole id)=>.ptr id e o
  | some (.sub id e0 o0 _)=>if e=0 then .ptr id e0 (o0+o) else .top
  | none=>.top
 | .sl c e len=>match ρ c with
  | some (.whole id)=>.sl id e len
  | _=>.top
 | .slc c e len cap=>match ρ c with
  | some (.whole id)=>.slc id e len cap
  | _=>.top
 | .bsl c e o esz n=>match ρ c with
  | some (.whole id)=>.bsl id e o esz n
  | some (.sub id e0 o0 _)=>if e=0 then .bsl id e0 (o0+o) esz n else .top
  | none=>.top
 | .agg cs=>.agg (qb6 ρ cs)
 | .tup vs=>.tup (qb6 ρ vs)
 | .fn f cs=>.fn f (qb6 ρ cs)
 | .top=>.top
 | .int k n=>.int k n
 | .bool b=>.bool b
 | .str s=>.str s
 | .nilp=>.nilp
 | .nils=>.nils
 | .nili=>.nili
 | .ifc=>.ifc
 | .anyb=>.anyb
 | .lst sz els=>.lst sz els
 | .elm cs=>.elm cs
def qb6 (ρ:Nat→Option Plc):List AV→List AV
 | []=>[]
 | a::r=>ren ρ a::qb6 ρ r
end
theorem qbd (ρ:Nat→Option Plc):∀ l,(qb6 ρ l).length=l.length
 | []=>rfl
 | _::r=>by simp[qb6,qbd ρ r]
theorem qdd (ρ:Nat→Option Plc):∀ (l:List AV) (j:Nat),(qb6 ρ l).getD j .top=ren ρ (l.getD j .top)
 | [],j=>by simp[qb6,ren]
 | a::r,0=>by simp[qb6]
 | a::r,j+1=>by simpa [qb6]using qdd ρ r j
def quQ (γ γ':Gm) (ρ:Nat→Option Plc):Prop :=
 ∀ c,match ρ c with
  | some (.whole id)=>∀ r,γ c=some r→γ' id=some r
  | some (.sub id e0 o0 _)=>∀ r,γ c=some r→∃ r',γ' id=some r'∧r.A=r'.A.at (e0 * r'.sz+o0)
  | none=>True
theorem qav (A:Addr) (i j:Nat):(A.at i).at j=A.at (i+j):=by simp[Addr.at,Nat.add_assoc]
theorem AVRel.ren {w:World} {Z:Addr→Prop} {γ γ':Gm} {ρ:Nat→Option Plc} (hρ:quQ γ γ' ρ) {av:AV} {v:Value} (h:AVRel w Z γ av v) :
  AVRel w Z γ' (ren ρ av) v:=by
 revert hρ
 generalize hG:γ=G at h;intro hρ
 revert hG hρ
 induction h with
 | top=>intros;simp only[Av.ren];exact .top _ _
 | int=>intros;simp only[Av.ren];exact .int _ _ _
 | bool=>intros;simp only[Av.ren];exact .bool _ _
 | str=>intros;simp only[Av.ren];exact .str _ _
 | nilp=>intros;simp only[Av.ren];exact .nilp _
 | nils=>intros;simp only[Av.ren];exact .nils _
 | nili=>intros;simp only[Av.ren];exact .nili _
 | ifc=>intros;simp only[Av.ren];exact .ifc _ _ _
 | anyb=>intros;simp only[Av.ren];exact .anyb _ _
 | agg γ cs vs hs _ ih =>
  intro hG hρ;simp only[Av.ren];exact .agg _ _ _ (by rw[qbd];exact hs) (fun j hj=>by rw[qdd];exact ih j (by simpa [qbd]using hj) hG hρ)
 | tup γ cs vs hs _ ih =>
  intro hG hρ;simp only[Av.ren];exact .tup _ _ _ (by rw[qbd];exact hs) (fun j hj=>by rw[qdd];exact ih j (by simpa [qbd]using hj) hG hρ)
 | fn γ f cs vs hs _ ih =>
  intro hG hρ;simp only[Av.ren];exact .fn _ _ _ _ (by rw[qbd];exact hs) (fun j hj=>by rw[qdd];exact ih j (by simpa [qbd]using hj) hG hρ)
 | ptr γ id e off r hg =>
  intro hG hρ;simp only[Av.ren];have:=hρ id
  revert this
  cases hc:ρ id with
  | none=>intro _;exact .top _ _
  | some p =>
   cases p with
   | whole id'=>intro h;exact .ptr _ _ _ _ r (h r hg)
   | sub id' e0 o0 n0 =>
    intro h;obtain⟨r',hr',hA⟩:=h r hg;by_cases he:e=0
    ·subst he;simp only[if_true];have:(r.A.at (0 * r.sz+off))=r'.A.at (e0 * r'.sz+(o0+off)):=by rw[hA,qav];congr 1;omega
     rw[this];exact .ptr _ _ _ _ r' hr'
    ·simp only[if_neg he];exact .top _ _
 | bsl γ id e off esz n r hg =>
  intro hG hρ;simp only[Av.ren];have:=hρ id
  revert this
  cases hc:ρ id with
  | none=>intro _;exact .top _ _
  | some p =>
   cases p with
   | whole id'=>intro h;exact .bsl _ _ _ _ _ _ r (h r hg)
   | sub id' e0 o0 n0 =>
    intro h;obtain⟨r',hr',hA⟩:=h r hg;by_cases he:e=0
    ·subst he;simp only[if_true];have:(r.A.at (0 * r.sz+off))=r'.A.at (e0 * r'.sz+(o0+off)):=by rw[hA,qav];congr 1;omega
     rw[this];exact .bsl _ _ _ _ _ _ r' hr'
    ·simp only[if_neg he];exact .top _ _
 | sl γ id e len cap r hg hl hc =>
  intro hG hρ;simp only[Av.ren];have:=hρ id
  revert this
  cases hcc:ρ id with
  | none=>intro _;exact .top _ _
  | some p =>
   cases p with
   | whole id'=>intro h;exact .sl _ _ _ _ _ r (h r hg) hl hc
   | sub id' e0 o0 n0=>intro h;exact .top _ _
 | sl0 γ id e a =>
  intro hG hρ;simp only[Av.ren];cases hcc:ρ id with
  | none=>exact .top _ _
  | some p =>
   cases p with
   | whole id'=>exact .sl0 _ _ _ _
   | sub id' e0 o0 n0=>exact .top _ _
 | slc γ id e len cap r hg hl hc =>
  intro hG hρ;simp only[Av.ren];have:=hρ id
  revert this
  cases hcc:ρ id with
  | none=>intro _;exact .top _ _
  | some p =>
   cases p with
   | whole id'=>intro h;exact .slc _ _ _ _ _ r (h r hg) hl hc
   | sub id' e0 o0 n0=>intro h;exact .top _ _
 | slc0 γ id e a =>
  intro hG hρ;simp only[Av.ren];cases hcc:ρ id with
  | none=>exact .top _ _
  | some p =>
   cases p with
   | whole id'=>exact .slc0 _ _ _ _
   | sub id' e0 o0 n0=>exact .top _ _
 | lst γ sz els a cap vf hl hc hs hr _=>intros;simp only[Av.ren];exact .lst _ _ _ _ _ vf hl hc hs hr
 | elm γ cs A vf hA hz hc hr _=>intros;simp only[Av.ren];exact .elm _ _ _ vf hA hz hc hr
theorem AVRel.gmono {w:World} {Z:Addr→Prop} {γ γ':Gm} (hg':∀ id r,γ id=some r→γ' id=some r) {av:AV} {v:Value} (h:AVRel w Z γ av v) :
  AVRel w Z γ' av v:=by
 revert hg'
 generalize hG:γ=G at h;intro hg'
 revert hG hg'
 induction h with
 | top=>intros;exact .top _ _
 | int=>intros;exact .int _ _ _
 | bool=>intros;exact .bool _ _
 | str=>intros;exact .str _ _
 | nilp=>intros;exact .nilp _
 | nils=>intros;exact .nils _
 | nili=>intros;exact .nili _
 | ifc=>intros;exact .ifc _ _ _
 | anyb=>intros;exact .anyb _ _
 | agg γ cs vs hs _ ih=>intro hG h;exact .agg _ _ _ hs fun j hj=>ih j hj hG h
 | tup γ cs vs hs _ ih=>intro hG h;exact .tup _ _ _ hs fun j hj=>ih j hj hG h
 | fn γ f cs vs hs _ ih=>intro hG h;exact .fn _ _ _ _ hs fun j hj=>ih j hj hG h
 | ptr γ id e off r hg=>intro _ h;exact .ptr _ _ _ _ r (h _ _ hg)
 | bsl γ id e off esz n r hg=>intro _ h;exact .bsl _ _ _ _ _ _ r (h _ _ hg)
 | sl γ id e len cap r hg hl hc=>intro _ h;exact .sl _ _ _ _ _ r (h _ _ hg) hl hc
 | sl0=>intros;exact .sl0 _ _ _ _
 | slc γ id e len cap r hg hl hc=>intro _ h;exact .slc _ _ _ _ _ r (h _ _ hg) hl hc
 | slc0=>intros;exact .slc0 _ _ _ _
 | lst γ sz els a cap vf hl hc hs hr _=>intros;exact .lst _ _ _ _ _ vf hl hc hs hr
 | elm γ cs A vf hA hz hc hr _=>intros;exact .elm _ _ _ vf hA hz hc hr
theorem AVRel.ofClosed {w:World} {Z:Addr→Prop} {γ:Gm} {av:AV} {v:Value} (h:AVRel w Z noG av v):AVRel w Z γ av v :=
 h.gmono fun _ _ e=>by simp[noG]at e
def Rg.has (r:Rg) (p:Addr):Prop:=p.block=r.A.block∧r.A.off≤p.off∧p.off<r.A.off+r.n∧p.spot=none
def Rg.apart (r s:Rg):Prop:=r.n=0∨s.n=0∨r.A.block≠s.A.block∨r.A.off+r.n≤s.A.off∨s.A.off+s.n≤r.A.off
theorem Rg.apart_comm {r s:Rg} (h:r.apart s):s.apart r:=by
 unfold Rg.apart at *;rcases h with h | h | h | h | h
 ·exact .inr (.inl h)
 ·exact .inl h
 ·exact .inr (.inr (.inl (qFL h)))
 ·exact .inr (.inr (.inr (.inr h)))
 ·exact .inr (.inr (.inr (.inl h)))
theorem Rg.apart_has {r s:Rg} (h:r.apart s) {p:Addr} (hp:r.has p):¬ s.has p:=by
 unfold Rg.apart Rg.has at *;rintro⟨h1,h2,h3,_⟩;obtain⟨g1,g2,g3,_⟩:=hp;rcases h with h | h | h | h | h
 ·omega
 ·omega
 ·exact h (g1.symm.trans h1)
 ·omega
 ·omega
theorem Rg.has_at {r:Rg} {k:Nat} (h:k<r.n):r.has (r.A.at k):=by simp[Rg.has,Addr.at];omega
structure ORel (w:World) (Z:Addr→Prop) (γ:Gm) (o:Ob) (r:Rg):Prop where
 spot:r.A.spot=none
 sz:r.sz=o.sz
 fit:o.els.length * o.sz≤r.n
 len:∀ e,e<o.els.length→(o.els.getD e []).length=o.sz
 live:∀ k,k<r.n→(∃ v,w.cell? (r.A.at k)=some v)∧w.frozen? (r.A.at k)=false
 cell:∀ e j,e<o.els.length→j<o.sz→∃ v,w.cell? (r.A.at (e * o.sz+j))=some v∧AVRel w Z γ ((o.els.getD e []).getD j .top) v
 pln:1<o.sz→0<r.n→∀ k,w.frozen? ⟨r.A.block,k,none⟩=false
@[irreducible] def gtab:Nat→Option (List AV):=fun g=>if g=5 then some [.int .u64 1,.int .u64 10,.int .u64 100,.int .u64 1000,.int .u64 10000,.int .u64 100000,.int .u64 1000000,.int .u64 10000000,.int .u64 100000000,.int .u64 1000000000,.int .u64 10000000000,.int .u64 100000000000,.int .u64 1000000000000,.int .u64 10000000000000,.int .u64 100000000000000,.int .u64 1000000000000000,.int .u64 10000000000000000,.int .u64 100000000000000000,.int .u64 1000000000000000000,.int .u64 10000000000000000000] else if g=2 then some [.ifc] else if g=1 then some [.ifc] else none
def GlR (w:World) (Z:Addr→Prop):Prop:=∀ g cs,gtab g=some cs→AVRel w Z noG (.elm cs) (.pointer (some ⟨g,0,none⟩))∧Z ⟨g,cs.length,none⟩∧w.cell? ⟨g,cs.length,none⟩=none
theorem GlR.world {w w':World} {Z Z':Addr→Prop} (h:GlR w Z) (hZ:∀ b,Z b→Z' b) (hw:∀ p:Addr,Z p→w'.cell? p=w.cell? p):GlR w' Z':=fun g cs hg =>
 ⟨(h g cs hg).1.world hZ hw,hZ _ (h g cs hg).2.1,(hw _ (h g cs hg).2.1).trans (h g cs hg).2.2⟩
structure HRel (w:World) (Z:Addr→Prop) (γ:Gm) (h:Hp):Prop where
 obj:∀ id o,h id=some o→∃ r,γ id=some r∧ORel w Z γ o r
 dis:∀ id id' o o' r r',id≠id'→h id=some o→h id'=some o'→γ id=some r→γ id'=some r'→r.apart r'
 zon:∀ id o r,h id=some o→γ id=some r→∀ p,r.has p→¬ Z p
 zlt:∀ p,Z p→p.block<w.heap.size
 gl:GlR w Z
def qjt (γ:Gm) (h:Hp) (p:Addr):Prop:=∃ id o r,h id=some o∧γ id=some r∧r.has p
structure Fr (F:Addr→Prop) (w w':World):Prop where
 os:w'.os=w.os
 tape:w'.tape=w.tape
 output:w'.output=w.output
 size:w.heap.size≤w'.heap.size
 blk:∀ b,b<w.heap.size→w'.heap[b]?=w.heap[b]?∨∃ c c' ty fz,w.heap[b]?=some (.cells c ty fz)∧w'.heap[b]?=some (.cells c' ty fz)∧c'.size=c.size∧∀ o,¬ F ⟨b,o,none⟩→c'[o]?=c[o]?
theorem Fr.refl (F:Addr→Prop) (w:World):Fr F w w:=⟨rfl,rfl,rfl,qFM _,fun _ _=>.inl rfl⟩
theorem Fr.cell {F:Addr→Prop} {w w':World} (h:Fr F w w') {p:Addr} (hb:p.block<w.heap.size) (hp:¬ F ⟨p.block,p.off,none⟩):w'.cell? p=w.cell? p:=by
 rcases h.blk p.block hb with e | ⟨c,c',ty,fz,h1,h2,_,h4⟩
 ·simp only[World.cell?,e]
 ·simp only[World.cell?,h1,h2,h4 _ hp]
theorem Fr.frozen {F:Addr→Prop} {w w':World} (h:Fr F w w') {p:Addr} (hb:p.block<w.heap.size):w'.frozen? p=w.frozen? p:=by
 rcases h.blk p.block hb with e | ⟨c,c',ty,fz,h1,h2,_,h4⟩
 ·simp only[World.frozen?,e]
 ·simp only[World.frozen?,h1,h2]
theorem Fr.trans {F G H:Addr→Prop} {a b c:World} (h:Fr F a b) (k:Fr G b c) (hF:∀ i o,F ⟨i,o,none⟩→H ⟨i,o,none⟩) (hG:∀ i o,i<a.heap.size→G ⟨i,o,none⟩→H ⟨i,o,none⟩):Fr H a c:=by
 refine⟨k.os.trans h.os,k.tape.trans h.tape,k.output.trans h.output,qFN h.size k.size,fun i hi=>?_⟩;rcases h.blk i hi with e | ⟨c1,c2,ty,fz,h1,h2,h3,h4⟩
 ·rcases k.blk i (qFO hi h.size)with e' | ⟨d1,d2,ty',fz',g1,g2,g3,g4⟩
  ·exact .inl (e'.trans e)
  ·exact .inr ⟨d1,d2,ty',fz',e ▸ g1,g2,g3,fun o ho=>g4 o fun hg=>ho (hG i o hi hg)⟩
 ·rcases k.blk i (qFO hi h.size)with e' | ⟨d1,d2,ty',fz',g1,g2,g3,g4⟩
  ·exact .inr ⟨c1,c2,ty,fz,h1,e'.trans h2,h3,fun o ho=>h4 o fun hf=>ho (hF _ _ hf)⟩
  ·rw[h2]at g1;injection g1 with g1;injection g1 with g1 gt gf;subst g1;subst gt;subst gf;exact .inr ⟨c1,d2,ty,fz,h1,g2,g3.trans h3,fun o ho=>(g4 o fun hg=>ho (hG i o hi hg)).trans (h4 o fun hf=>ho (hF _ _ hf))⟩
theorem Fr.mono {F G:Addr→Prop} {a b:World} (h:Fr F a b) (hF:∀ i o,F ⟨i,o,none⟩→G ⟨i,o,none⟩):Fr G a b :=
 ⟨h.os,h.tape,h.output,h.size,fun i hi=>(h.blk i hi).imp id fun⟨c,c',ty,fz,h1,h2,h3,h4⟩=>⟨c,c',ty,fz,h1,h2,h3,fun o ho=>h4 o fun hf=>ho (hF _ _ hf)⟩⟩
theorem Fr.below {a b:World} (h:Fr (fun _=>False) a b):Below a.heap.size a b:=by
 refine⟨h.os,h.tape,h.output,h.size,fun i hi=>?_⟩;rcases h.blk i hi with e | ⟨c,c',ty,fz,h1,h2,h3,h4⟩
 ·exact e
 ·rw[h1,h2]
  congr 2
  apply qFP;intro o;exact h4 o (by simp)
theorem Fr.of_below {F:Addr→Prop} {a b:World} (h:Below a.heap.size a b):Fr F a b :=
 ⟨h.os,h.tape,h.output,h.size,fun i hi=>.inl (h.block i hi)⟩
end Go.Av
end
section
namespace Go.Av
open Go.RowKit
inductive TD where
 | int (k:IntKind)
 | bool
 | str
 | slc (e:Nat)
 | ptr (e:Nat)
 | ifc
 | arr (n e:Nat)
 | srt (fs:List (Nat×Nat))
 | oth
deriving Inhabited
structure TI where
 td:TD
 size:Nat
 bytes:Nat
 zero:List AV
def qte:TypeDesc→TD
 | .int k=>.int k
 | .bool=>.bool
 | .string=>.str
 | .slice e=>.slc e
 | .pointer e=>.ptr e
 | .interface _=>.ifc
 | .array n e=>.arr n e
 | .struct fs=>.srt (fs.toList.map fun f=>(f.offset,f.type))
 | _=>.oth
def av1:Value→AV
 | .int k n=>.int k n
 | .bool b=>.bool b
 | .string s=>.str s.data.toList
 | .pointer none=>.nilp
 | .slice none 0 0=>.nils
 | .nilIface=>.nili
 | _=>.top
def qEL:Value→AV
 | .agg cs=>.agg (cs.toList.map av1)
 | v=>av1 v
def qaA (P:Program) (t:Nat):Option TI :=
 match P.underlying t,P.info? t with
 | some d,some i=>match i.zero with
  | some z=>some ⟨qte d,i.size,i.bytes,z.cells.toList.map av1⟩
  | none=>none
 | _,_=>none
def TD.agg:TD→Bool
 | .srt _=>true
 | .arr _ _=>true
 | _=>false
theorem qbA {P:Program} {t:Nat} {i:TI} (h:qaA P t=some i) :
  ∃ d f z,P.underlying t=some d∧qte d=i.td∧P.info? t=some f∧f.size=i.size∧f.bytes=i.bytes∧f.zero=some z∧z.cells.toList.map av1=i.zero:=by
 unfold qaA at h;cases hd:P.underlying t with
 | none=>simp[hd]at h
 | some d =>
  cases hf:P.info? t with
  | none=>simp[hd,hf]at h
  | some f =>
   cases hz:f.zero with
   | none=>simp[hd,hf,hz]at h
   | some z =>
    simp[hd,hf,hz]at h;subst h;exact⟨d,f,z,rfl,rfl,rfl,rfl,rfl,hz,rfl⟩
theorem qnP (w:World) (Z:Addr→Prop) (γ:Gm) (v:Value):AVRel w Z γ (av1 v) v:=by
 unfold av1;split
 ·exact .int _ _ _
 ·exact .bool _ _
 ·exact .str _ _
 ·exact .nilp _
 ·exact .nils _
 ·exact .nili _
 ·exact .top _ _
theorem quN (w:World) (Z:Addr→Prop) (γ:Gm) (v:Value):AVRel w Z γ (qEL v) v:=by
 unfold qEL;split
 ·refine .agg _ _ _ (by simp) fun j hj=>?_;rename_i cs;have hj':j<cs.size:=by simpa using hj
  have:(cs.toList.map av1).getD j .top=av1 (cs.getD j undef):=by
   simp[List.getD,Array.getD,hj']
  rw[this];exact qnP _ _ _ _
 ·exact qnP _ _ _ _
def opd (t:Tm):Operand→AV
 | .tmp i=>t i
 | .const v=>qEL v
 | .func f=>.fn f []
 | .global g=>match gtab g with
  | some cs=>.elm cs
  | none=>.top
def qei:AV→Option (List AV)
 | .agg cs=>some cs
 | .top=>none
 | .tup _=>none
 | v=>some [v]
def CRel (w:World) (Z:Addr→Prop) (γ:Gm) (cs:List AV) (vs:Array Value):Prop :=
 vs.size=cs.length∧∀ j,j<cs.length→AVRel w Z γ (cs.getD j .top) (vs.getD j undef)
theorem AVRel.notAgg {w:World} {Z:Addr→Prop} {γ:Gm} {av:AV} {v:Value} {cs:List AV} (h:AVRel w Z γ av v) (hc:qei av=some cs):CRel w Z γ cs v.cells:=by
 have one:∀ (u:Value),v=u→u.cells=#[u]→cs=[av]→CRel w Z γ cs v.cells:=by
  intro u hu hcc hcs;subst hu hcs;rw[hcc];exact⟨rfl,fun j hj=>by
   have:j=0:=by simpa using hj
   subst this;exact h⟩
 cases h with
 | agg γ cs' vs hs hr=>simp[qei]at hc;subst hc;exact⟨hs,hr⟩
 | top=>simp[qei]at hc
 | tup=>simp[qei]at hc
 | _=>simp[qei]at hc;exact one _ rfl rfl hc.symm
def qka (op:BinOp) (k:IntKind) (x y:Int):Option Int :=
 let a:=BitVec.ofInt k.bits x
 let b:=BitVec.ofInt k.bits y
 match op with
 | .and=>some (k.wrap (a &&& b).toNat)
 | .or=>some (k.wrap (a ||| b).toNat)
 | .xor=>some (k.wrap (a ^^^ b).toNat)
 | .andNot=>some (k.wrap (a &&& ~~~b).toNat)
 | _=>none
def qug (op:BinOp) (k k':IntKind) (a b:Int):Option (Prop×AV) :=
 match op with
 | .shl=>some (0≤b,.int k (k.wrap (a * 2 ^ (min b.toNat k.bits))))
 | .shr=>some (0≤b,.int k (a.fdiv (2 ^ (min b.toNat k.bits))))
 | .add=>some (k=k',.int k (k.wrap (a+b)))
 | .sub=>some (k=k',.int k (k.wrap (a-b)))
 | .mul=>some (k=k',.int k (k.wrap (a * b)))
 | .quo=>some (k=k'∧b≠0,.int k (k.wrap (a.tdiv b)))
 | .rem=>some (k=k'∧b≠0,.int k (a.tmod b))
 | .eql=>some (k=k',.bool (a == b))
 | .neq=>some (k=k',.bool (a != b))
 | .lss=>some (k=k',.bool (decide (a<b)))
 | .leq=>some (k=k',.bool (decide (a≤b)))
 | .gtr=>some (k=k',.bool (decide (a > b)))
 | .geq=>some (k=k',.bool (decide (a ≥ b)))
 | op=>match qka op k a b with | some n=>some (k=k',.int k n) | none=>none
theorem qnx {P:Program} {w:World} {Z:Addr→Prop} {γ:Gm} {op:BinOp} {k k':IntKind} {a b:Int} {p:Prop} {v:AV} (xt:TypeId)
  (h:qug op k k' a b=some (p,v)) (hp:p):∃ u,(binOp op xt (.int k a) (.int k' b)).run P w=.ok u w∧AVRel w Z γ v u:=by
 cases op <;> simp only[qug,qka,qFQ,qFR,reduceCtorEq]at h <;> obtain⟨rfl,rfl⟩:=h
 case shl=>exact⟨_,by simp[binOp,Op.shift,show ¬ b<0 by omega],.int _ _ _⟩
 case shr=>exact⟨_,by simp[binOp,Op.shift,show ¬ b<0 by omega],.int _ _ _⟩
 case quo=>obtain⟨rfl,hb⟩:=hp;exact⟨_,by simp[binOp,Op.intDiv,hb],.int _ _ _⟩
 case rem=>obtain⟨rfl,hb⟩:=hp;exact⟨_,by simp[binOp,Op.intDiv,hb],.int _ _ _⟩
 all_goals
  subst hp
  first
   | exact⟨_,by simp[binOp,Op.intArith,Op.intCmp,Op.intBits],.int _ _ _⟩
   | exact⟨_,by simp[binOp,Op.intArith,Op.intCmp,Op.intBits],.bool _ _⟩
def quf (op:BinOp) (a b:List UInt8):Option (Prop×AV) :=
 match op with
 | .add=>some (((a.length+b.length:Nat):Int)≤9223372036854775807,.str (a++b))
 | .eql=>some (True,.bool (a == b))
 | .neq=>some (True,.bool (!(a == b)))
 | .lss=>some (True,.bool (Op.bytesLess a b))
 | .leq=>some (True,.bool (Op.bytesLess a b || a == b))
 | .gtr=>some (True,.bool !(Op.bytesLess a b || a == b))
 | .geq=>some (True,.bool (!Op.bytesLess a b))
 | _=>none
theorem qji (s:List UInt8):(ByteArray.mk s.toArray).toList=s:=by
 simp only[ByteArray.toList_mk]
theorem qnv {P:Program} {w:World} {Z:Addr→Prop} {γ:Gm} {op:BinOp} {a b:List UInt8} {p:Prop} {v:AV} (xt:TypeId)
  (h:quf op a b=some (p,v)) (hp:p):∃ u,(binOp op xt (.string ⟨a.toArray⟩) (.string ⟨b.toArray⟩)).run P w=.ok u w∧AVRel w Z γ v u:=by
 cases op <;> simp only[quf,qFQ,qFR,reduceCtorEq]at h <;> obtain⟨rfl,rfl⟩:=h
 case add =>
  refine⟨_,?_,.str _ _⟩;have hm:IntKind.i64.max=9223372036854775807:=rfl;have:¬ (((⟨a.toArray⟩:ByteArray).size+(⟨b.toArray⟩:ByteArray).size:Nat):Int) > IntKind.i64.max:=by
   rw[hm];simp[ByteArray.size]at hp ⊢;omega
  simp only[binOp,Op.stringOp,if_neg this,Sem.run_pure]
  congr 2
 all_goals exact⟨_,by simp only[binOp,Op.stringOp,qji,Sem.run_pure],.bool _ _⟩
end Go.Av
end
section
namespace Go.Av
open Go.RowKit
theorem qfM (A:Addr) (k j:Nat):(A.at k).add j=A.at (k+j):=by
 unfold Addr.add Addr.at;split <;> simp_all [Nat.add_assoc]
theorem qnR (A:Addr) (h:A.spot=none):A.at 0=A:=by cases A;simp_all [Addr.at]
theorem qcB (A:Addr) (h:A.spot=none) (j:Nat):A.add j=A.at j:=by
 unfold Addr.add Addr.at;split
 ·subst_vars;cases A;simp_all
 ·rfl
theorem qih (A:Addr) (k:Nat):(A.at k).block=A.block:=rfl
section
variable {P:Program} {w:World} {Z:Addr→Prop} {γ:Gm} {h:Hp}
theorem qab {t:Nat} {d:TypeDesc} (hd:P.underlying t=some d):(underlying t).run P w=.ok d w:=by simp[underlying,hd]
theorem qdO {t:Nat} {f:TypeInfo} (hf:P.info? t=some f):(typeInfo t).run P w=.ok f w:=by simp[typeInfo,hf]
theorem qjF {t:Nat} {f:TypeInfo} (hf:P.info? t=some f):(sizeOf t).run P w=.ok f.size w:=by simp[sizeOf,qdO hf]
theorem qep {t:Nat} {f:TypeInfo} {z:Value} (hf:P.info? t=some f) (hz:f.zero=some z):(zeroValue t).run P w=.ok z w:=by simp[zeroValue,qdO hf,hz]
theorem qea {t:Nat} {i:TI} (hi:qaA P t=some i):(isAgg t).run P w=.ok i.td.agg w:=by
 obtain⟨d,f,z,hd,htd,_⟩:=qbA hi;rw[← htd];simp only[isAgg,Sem.run_bind,qab hd,Result.andThen_ok];cases d <;> rfl
theorem qaH {t:Nat} {i:TI} (hi:qaA P t=some i):(sizeOf t).run P w=.ok i.size w:=by
 obtain⟨d,f,z,hd,htd,hf,hs,_⟩:=qbA hi;rw[qjF hf,hs]
theorem qaX {t:Nat} {i:TI} {e:Nat} (hi:qaA P t=some i) (he:i.td=.slc e):P.underlying t=some (.slice e):=by
 obtain⟨d,f,z,hd,htd,_⟩:=qbA hi;rw[he]at htd;cases d <;> simp[qte]at htd;rw[hd,htd]
theorem qht {t:Nat} {i:TI} {n e:Nat} (hi:qaA P t=some i) (he:i.td=.arr n e):P.underlying t=some (.array n e):=by
 obtain⟨d,f,z,hd,htd,_⟩:=qbA hi;rw[he]at htd;cases d <;> simp[qte]at htd;rw[hd,htd.1,htd.2]
theorem qhs {t:Nat} {i:TI} {k:IntKind} (hi:qaA P t=some i) (he:i.td=.int k):P.underlying t=some (.int k):=by
 obtain⟨d,f,z,hd,htd,_⟩:=qbA hi;rw[he]at htd;cases d <;> simp[qte]at htd;rw[hd,htd]
theorem qfy {t:Nat} {i:TI} (hi:qaA P t=some i) (he:i.td=.str):P.underlying t=some .string:=by
 obtain⟨d,f,z,hd,htd,_⟩:=qbA hi;rw[he]at htd;cases d <;> simp[qte]at htd;exact hd
theorem qwh {t:Nat} {i:TI} (hi:qaA P t=some i) (he:i.td=.bool):P.underlying t=some .bool:=by
 obtain⟨d,f,z,hd,htd,_⟩:=qbA hi;rw[he]at htd;cases d <;> simp[qte]at htd;exact hd
theorem qqu {t:Nat} {i:TI} {fs:List (Nat×Nat)} (hi:qaA P t=some i) (he:i.td=.srt fs) :
  ∃ gs,P.underlying t=some (.struct gs)∧gs.toList.map (fun f=>(f.offset,f.type))=fs:=by
 obtain⟨d,f,z,hd,htd,_⟩:=qbA hi;rw[he]at htd;cases d <;> simp[qte]at htd;exact⟨_,hd,by simpa using htd⟩
theorem qpJ {A:Addr} {cs:List AV} (k n:Nat) (hn:k+n≤cs.length)
  (hc:∀ j,j<cs.length→∃ v,w.cell? (A.at j)=some v∧AVRel w Z γ (cs.getD j .top) v) :
  ∃ vs:Array Value,(loadCells (A.at k) n).run P w=.ok vs w∧CRel w Z γ ((cs.drop k).take n) vs:=by
 have hex:∀ j,∃ v,j<cs.length→w.cell? (A.at j)=some v∧AVRel w Z γ (cs.getD j .top) v:=fun j=>by
  by_cases hj:j<cs.length
  ·obtain⟨v,hv⟩:=hc j hj;exact⟨v,fun _=>hv⟩
  ·exact⟨undef,fun h=>absurd h hj⟩
 let f:=fun j=>Classical.choose (hex j)
 have hf:∀ j,j<cs.length→w.cell? (A.at j)=some (f j)∧AVRel w Z γ (cs.getD j .top) (f j):=fun j hj=>qFS (hex j) hj;refine⟨((List.range n).map fun j=>f (k+j)).toArray,?_,?_⟩
 ·rw[run_loadCells w (A.at k) n (fun j=>f (k+j)) (fun j hj=>by rw[qfM];exact(hf _ (by omega)).1)]
 ·refine⟨by simp;omega,fun j hj=>?_⟩;simp only[qFT,qFU]at hj;have h1:((cs.drop k).take n).getD j .top=cs.getD (k+j) .top:=by
   simp[List.getD,qFV,show j<n by omega]
  have h2:(((List.range n).map fun j=>f (k+j)).toArray).getD j undef=f (k+j):=by
   simp[Array.getD,show j<n by omega]
  rw[h1,h2];exact(hf _ (by omega)).2
def qfF (P:Program) (h:Hp) (ty:Nat):AV→Option (Prop×AV)
 | .ptr id e off=>match h id,qaA P ty with
  | some o,some i=>if i.td.agg then some (e<o.els.length∧off+i.size≤o.sz,.agg (((o.els.getD e []).drop off).take i.size))
   else some (e<o.els.length∧off<o.sz,(o.els.getD e []).getD off .top)
  | _,_=>none
 | .elm cs=>match qaA P ty with
  | some i=>if i.td.agg then some (i.size≤cs.length,.agg (cs.take i.size)) else some (0<cs.length,cs.getD 0 .top)
  | none=>none
 | _=>none
theorem qgh {t:Nat} {i:TI} (hi:qaA P t=some i) {A:Addr} {cs:List AV} (k:Nat) 
  (hc:∀ j,j<cs.length→∃ v,w.cell? (A.at j)=some v∧AVRel w Z γ (cs.getD j .top) v) :
  (i.td.agg=true→k+i.size≤cs.length→∃ u,(Instr.loadAt t (.pointer (some (A.at k)))).run P w=.ok u w∧AVRel w Z γ (.agg ((cs.drop k).take i.size)) u) ∧
  (i.td.agg=false→k<cs.length→∃ u,(Instr.loadAt t (.pointer (some (A.at k)))).run P w=.ok u w∧AVRel w Z γ (cs.getD k .top) u):=by
 refine⟨fun ha hk=>?_,fun ha hk=>?_⟩
 ·obtain⟨vs,hr,hv⟩:=qpJ (P:=P) k i.size hk hc;refine⟨.agg vs,?_,.agg _ _ _ hv.1 hv.2⟩;simp[Instr.loadAt,Instr.sureAddr,loadVar,qea hi,ha,qaH hi,hr]
 ·obtain⟨v,hv,hr⟩:=hc k hk;exact⟨v,by simp[Instr.loadAt,Instr.sureAddr,loadVar,qea hi,ha,hv],hr⟩
theorem ORel.cells {o:Ob} {r:Rg} (ho:ORel w Z γ o r) {e:Nat} (he:e<o.els.length) :
  ∀ j,j<(o.els.getD e []).length→∃ v,w.cell? ((r.A.at (e * o.sz)).at j)=some v∧AVRel w Z γ ((o.els.getD e []).getD j .top) v:=fun j hj=>by
 rw[ho.len e he]at hj;rw[qav];exact ho.cell e j he hj
theorem qhE (hh:HRel w Z γ h) {ty:Nat} {x:AV} {xv:Value} (hx:AVRel w Z γ x xv) {p:Prop} {v:AV} (he:qfF P h ty x=some (p,v)) (hp:p) :
  ∃ u,(Instr.loadAt ty xv).run P w=.ok u w∧AVRel w Z γ v u:=by
 cases hx with
 | ptr γ id e off r hg =>
  simp only[qfF]at he;cases hid:h id with
  | none=>simp[hid]at he
  | some o =>
   cases hi:qaA P ty with
   | none=>simp[hid,hi]at he
   | some i =>
    simp only[hid,hi]at he;obtain⟨r',hr',ho⟩:=hh.obj id o hid;rw[hg]at hr';injection hr' with hr';subst hr';by_cases ha:i.td.agg=true
    ·rw[if_pos ha]at he;injection he with he;injection he with h1 h2;subst h1;subst h2;have:=(qgh hi off (ho.cells hp.1)).1 ha (by rw[ho.len e hp.1];exact hp.2)
     rwa [qav,← ho.sz]at this
    ·have ha':i.td.agg=false:=by simpa using ha
     rw[if_neg ha]at he;injection he with he;injection he with h1 h2;subst h1;subst h2;have:=(qgh hi off (ho.cells hp.1)).2 ha' (by rw[ho.len e hp.1];exact hp.2)
     rwa [qav,← ho.sz]at this
 | elm γ cs A vf hA hz hc hr =>
  simp only[qfF]at he;cases hi:qaA P ty with
  | none=>simp[hi]at he
  | some i =>
   simp only[hi]at he;have hcc:∀ j,j<cs.length→∃ v,w.cell? (A.at j)=some v∧AVRel w Z γ (cs.getD j .top) v:=fun j hj=>⟨_,hc j hj,(hr j hj).ofClosed⟩;by_cases ha:i.td.agg=true
   ·rw[if_pos ha]at he;injection he with he;injection he with h1 h2;subst h1;subst h2;have:=(qgh hi 0 hcc).1 ha (by simpa using hp)
    rwa [qnR A hA,List.drop_zero]at this
   ·have ha':i.td.agg=false:=by simpa using ha
    rw[if_neg ha]at he;injection he with he;injection he with h1 h2;subst h1;subst h2;have:=(qgh hi 0 hcc).2 ha' hp
    rwa [qnR A hA]at this
 | _=>simp[qfF]at he
def qcj (P:Program) (s f:Nat):AV→Option (Prop×AV)
 | .ptr id e off=>match qaA P s with
  | some ⟨.srt fs,_,_,_⟩=>match fs[f]? with
   | some (fo,ft)=>match qaA P ft with
    | some i=>some (i.size≠0,.ptr id e (off+fo))
    | none=>none
   | none=>none
  | _=>none
 | .elm cs=>match qaA P s with
  | some ⟨.srt fs,_,_,_⟩=>match fs[f]? with
   | some (fo,ft)=>match qaA P ft with
    | some i=>some (i.size≠0,.elm (cs.drop fo))
    | none=>none
   | none=>none
  | _=>none
 | _=>none
theorem AVRel.elm_drop {cs:List AV} {A:Addr} {vf:Nat→Value} (hA:A.spot=none) (hz:∀ j,j<cs.length→Z (A.at j)) (hc:∀ j,j<cs.length→w.cell? (A.at j)=some (vf j))
  (hr:∀ j,j<cs.length→AVRel w Z noG (cs.getD j .top) (vf j)) (k:Nat):AVRel w Z γ (.elm (cs.drop k)) (.pointer (some (A.at k))):=by
 refine .elm _ _ _ (fun j=>vf (k+j)) rfl (fun j hj=>by rw[qav];exact hz _ (by simp at hj;omega)) (fun j hj=>?_) (fun j hj=>?_)
 ·rw[qav];exact hc _ (by simp at hj;omega)
 ·have:=hr (k+j) (by simp at hj;omega);simpa [List.getD]using this
theorem qhf {s f:Nat} {x:AV} {xv:Value} (hx:AVRel w Z γ x xv) {p:Prop} {v:AV} (he:qcj P s f x=some (p,v)) (hp:p) :
  ∃ u,(Instr.fieldAt s xv f).run P w=.ok u w∧AVRel w Z γ v u:=by
 have key:∀ {A:Addr} {i:TI} {fs:List (Nat×Nat)} {fo ft sz by':Nat} {ze:List AV} {ift:TI},qaA P s=some ⟨.srt fs,sz,by',ze⟩→fs[f]?=some (fo,ft)→qaA P ft=some ift→ift.size≠0 →
   (Instr.fieldAt s (.pointer (some A)) f).run P w=.ok (.pointer (some (A.add fo))) w:=by
  intro A i fs fo ft sz by' ze ift h1 h2 h3 h4;obtain⟨gs,hg1,hg2⟩:=qqu h1 rfl;have hgf:∃ fl:Field,gs[f]?=some fl∧fl.offset=fo∧fl.type=ft:=by
   rw[← hg2]at h2;simp at h2;obtain⟨fl,hfl,h5,h6⟩:=h2;exact⟨fl,hfl,h5,h6⟩
  obtain⟨fl,hfl,rfl,rfl⟩:=hgf;have hsz:=qaH (w:=w) h3;simp[Instr.fieldAt,qab hg1,hfl,Instr.sureAddr,fieldPlace,hsz,h4]
 cases hx with
 | ptr γ id e off r hg =>
  simp only[qcj]at he;split at he
  ·rename_i fs sz by' ze hs;split at he
   ·rename_i fo ft hf;split at he
    ·rename_i i hi;injection he with he;injection he with h1 h2;subst h1;subst h2;refine⟨_,key (i:=i) hs hf hi hp,?_⟩;rw[qfM,Nat.add_assoc];exact .ptr _ _ _ _ r hg
    ·cases he
   ·cases he
  ·cases he
 | elm γ cs A vf hA hz hc hr =>
  simp only[qcj]at he;split at he
  ·rename_i fs sz by' ze hs;split at he
   ·rename_i fo ft hf;split at he
    ·rename_i i hi;injection he with he;injection he with h1 h2;subst h1;subst h2;refine⟨_,key (i:=i) hs hf hi hp,?_⟩;rw[qcB A hA];exact AVRel.elm_drop hA hz hc hr _
    ·cases he
   ·cases he
  ·cases he
 | _=>simp[qcj]at he
def qcz (P:Program) (h:Hp) (ty:Nat) (x i:AV):Option (Prop×AV) :=
 match i with
 | .int _ n=>match qaA P ty,x with
  | some ⟨.arr len el,_,_,_⟩,.ptr id e off=>match qaA P el with
   | some ie=>some (0≤n∧n<len,.ptr id e (off+n.toNat * ie.size))
   | none=>none
  | some ⟨.arr len el,_,_,_⟩,.elm cs=>match qaA P el with
   | some ie=>some (0≤n∧n<len,.elm (cs.drop (n.toNat * ie.size)))
   | none=>none
  | some ⟨.slc el,_,_,_⟩,.sl id e len=>match qaA P el,h id with
   | some ie,some o=>some (0≤n∧n<len∧o.sz=ie.size,.ptr id (e+n.toNat) 0)
   | _,_=>none
  | some ⟨.slc el,_,_,_⟩,.slc id e len cap=>match qaA P el,h id with
   | some ie,some o=>some (0≤n∧n<len∧o.sz=ie.size,.ptr id (e+n.toNat) 0)
   | _,_=>none
  | some ⟨.slc el,_,_,_⟩,.lst sz els=>match qaA P el with
   | some ie=>some (0≤n∧n<els.length∧sz=ie.size,.elm (els.getD n.toNat []))
   | none=>none
  | _,_=>none
 | _=>none
theorem qhd (hh:HRel w Z γ h) {ty:Nat} {x i:AV} {xv iv:Value} (hx:AVRel w Z γ x xv) (hi:AVRel w Z γ i iv) {p:Prop} {v:AV}
  (he:qcz P h ty x i=some (p,v)) (hp:p):∃ u,(Instr.indexAt ty xv iv).run P w=.ok u w∧AVRel w Z γ v u:=by
 cases hi <;> simp only[qcz,reduceCtorEq]at he;rename_i k n;split at he
 ·rename_i len el sz by' ze id e off ht;cases hie:qaA P el with
  | none=>simp[hie]at he
  | some ie =>
   simp only[hie,qFQ,qFR]at he;obtain⟨rfl,rfl⟩:=he;cases hx with
   | ptr _ _ _ _ r hg =>
    refine⟨_,?_,.ptr _ id e _ r hg⟩;simp[Instr.indexAt,asIntOf,qab (qht ht rfl),Instr.sureAddr,hp.1,hp.2,qaH hie,qfM,Nat.add_assoc]
 ·rename_i len el sz by' ze cs ht;cases hie:qaA P el with
  | none=>simp[hie]at he
  | some ie =>
   simp only[hie,qFQ,qFR]at he;obtain⟨rfl,rfl⟩:=he;cases hx with
   | elm _ _ A vf hA hz hc hr =>
    refine⟨_,?_,AVRel.elm_drop hA hz hc hr _⟩;simp[Instr.indexAt,asIntOf,qab (qht ht rfl),Instr.sureAddr,hp.1,hp.2,qaH hie,qcB A hA]
 ·rename_i el sz by' ze id e len ht;split at he
  ·rename_i ie o hie ho;simp only[qFQ,qFR]at he;obtain⟨rfl,rfl⟩:=he;obtain⟨h0,h1,h2⟩:=hp;obtain⟨r',hr',hor⟩:=hh.obj _ _ ho;cases hx with
   | sl _ _ _ _ cap r hg hl hc =>
    rw[hg]at hr';injection hr' with hr';subst hr';have hsz:ie.size=r.sz:=by rw[hor.sz,h2]
    refine⟨_,?_,.ptr _ id (e+n.toNat) 0 r hg⟩;simp[Instr.indexAt,asIntOf,qab (qaX ht rfl),h0,h1,qaH hie,qfM,hsz,qFW]
   | sl0=>exact absurd h1 (by simp;omega)
  ·cases he
 ·rename_i el sz by' ze id e len cp ht;split at he
  ·rename_i ie o hie ho;simp only[qFQ,qFR]at he;obtain⟨rfl,rfl⟩:=he;obtain⟨h0,h1,h2⟩:=hp;obtain⟨r',hr',hor⟩:=hh.obj _ _ ho;cases hx with
   | slc _ _ _ _ cap r hg hl hc =>
    rw[hg]at hr';injection hr' with hr';subst hr';have hsz:ie.size=r.sz:=by rw[hor.sz,h2]
    refine⟨_,?_,.ptr _ id (e+n.toNat) 0 r hg⟩;simp[Instr.indexAt,asIntOf,qab (qaX ht rfl),h0,h1,qaH hie,qfM,hsz,qFW]
   | slc0=>exact absurd h1 (by simp;omega)
  ·cases he
 ·rename_i el sz by' ze sz' els ht;cases hie:qaA P el with
  | none=>simp[hie]at he
  | some ie =>
   simp only[hie,qFQ,qFR]at he;obtain⟨rfl,rfl⟩:=he;obtain⟨h0,h1,h2⟩:=hp;subst h2;cases hx with
   | lst _ _ _ a cap vf hl hc hs hr =>
    have hlt:n.toNat<els.length:=by omega
    obtain⟨A,rfl,hz,hA,hcell⟩:=hc (by rintro rfl;simp at hlt);refine⟨.pointer (some (A.at (n.toNat * ie.size))),?_,.elm _ _ _ (fun j=>vf n.toNat j) rfl (fun j hj=>by rw[qav];exact hz _ _ hlt (by rwa [hs _ hlt]at hj)) (fun j hj=>?_) (fun j hj=>?_)⟩
    ·simp[Instr.indexAt,asIntOf,qab (qaX ht rfl),h0,h1,qaH hie,qcB A hA]
    ·rw[qav];exact hcell _ _ hlt (by rwa [hs _ hlt]at hj)
    ·exact hr _ _ hlt (by rwa [hs _ hlt]at hj)
 ·cases he
end
end Go.Av
end
section
namespace Go.Av
open Go.RowKit
section
variable {P:Program} {w:World} {Z:Addr→Prop} {γ:Gm} {h:Hp}
def bOf (d:Nat):Option AV→Option (Prop×Nat)
 | none=>some (True,d)
 | some (.int _ n)=>some (0≤n,n.toNat)
 | _=>none
def qeJ (sz n:Nat) (cs:List AV):List (List AV):=(List.range n).map fun i=>(cs.drop (i * sz)).take sz
def qcr (P:Program) (h:Hp) (ty:Nat) (x:AV) (lo hi:Option AV):Option (Prop×AV) :=
 match x with
 | .str s=>match bOf 0 lo,bOf s.length hi,qaA P ty with
  | some (p,l),some (q,u),some ⟨.str,_,_,_⟩=>some (p∧q∧l≤u∧u≤s.length,.str ((s.drop l).take (u-l)))
  | _,_,_=>none
 | .sl id e len=>match bOf 0 lo,bOf len hi,qaA P ty with
  | some (p,l),some (q,u),some ⟨.slc el,_,_,_⟩=>match qaA P el,h id with
   | some ie,some o=>some (p∧q∧l≤u∧u≤len∧o.sz=ie.size,.sl id (e+l) (u-l))
   | _,_=>none
  | _,_,_=>none
 | .slc id e len cap=>match bOf 0 lo,bOf len hi,qaA P ty with
  | some (p,l),some (q,u),some ⟨.slc el,_,_,_⟩=>match qaA P el,h id with
   | some ie,some o=>some (p∧q∧l≤u∧u≤cap∧o.sz=ie.size,.slc id (e+l) (u-l) (cap-l))
   | _,_=>none
  | _,_,_=>none
 | .lst sz els=>match bOf 0 lo,bOf els.length hi,qaA P ty with
  | some (p,l),some (q,u),some ⟨.slc el,_,_,_⟩=>match qaA P el with
   | some ie=>some (p∧q∧l≤u∧u≤els.length∧sz=ie.size,.lst sz ((els.drop l).take (u-l)))
   | none=>none
  | _,_,_=>none
 | .nils=>match bOf 0 lo,bOf 0 hi,qaA P ty with
  | some (p,l),some (q,u),some ⟨.slc el,_,_,_⟩=>match qaA P el with
   | some ie=>some (p∧q∧l=0∧u=0,.nils)
   | none=>none
  | _,_,_=>none
 | .ptr id e off=>match lo,hi,qaA P ty with
  | none,none,some ⟨.arr n el,_,_,_⟩=>match qaA P el with
   | some ie=>some (True,.bsl id e off ie.size n)
   | none=>none
  | _,_,_=>none
 | .elm cs=>match lo,hi,qaA P ty with
  | none,none,some ⟨.arr n el,_,_,_⟩=>match qaA P el with
   | some ie=>some (n * ie.size≤cs.length,.lst ie.size (qeJ ie.size n cs))
   | none=>none
  | _,_,_=>none
 | _=>none
inductive OpRel (w:World) (Z:Addr→Prop) (γ:Gm):Option AV→Option Value→Prop
 | none:OpRel w Z γ none none
 | some (a:AV) (v:Value) (h:AVRel w Z γ a v):OpRel w Z γ (some a) (some v)
theorem qbN {a:AV} {v:Value} (ha:AVRel w Z γ a v) {d y n:Nat} {p:Prop} {code:BoundsCode} (hb:bOf d (some a)=some (p,n)) (hp:p) (hy:n≤y) :
  (Instr.sliceBound v y code).run P w=.ok n w:=by
 cases ha <;> simp only[bOf,qFQ,qFR,reduceCtorEq]at hb;obtain⟨rfl,rfl⟩:=hb;simp only[Instr.sliceBound,asIntOf,Sem.run_bind,Sem.run_pure,Result.andThen_ok];rw[if_pos ⟨hp,by omega⟩];rfl
theorem qbQ {lo hi:Option AV} {lv hv:Option Value} (hl:OpRel w Z γ lo lv) (hh:OpRel w Z γ hi hv) {isS:Bool} {len cap l u:Nat} {p q:Prop}
  (h1:bOf 0 lo=some (p,l)) (h2:bOf len hi=some (q,u)) (hp:p) (hq:q) (hlu:l≤u) (hu:u≤cap) :
  (Instr.sliceBounds isS len cap lv hv none).run P w=.ok (l,u,cap) w:=by
 unfold Instr.sliceBounds;cases hh with
 | none =>
  simp only[bOf,qFQ,qFR]at h2;obtain⟨rfl,rfl⟩:=h2;cases hl with
  | none =>
   simp only[bOf,qFQ,qFR]at h1;obtain⟨rfl,rfl⟩:=h1;simp
  | some a v ha=>simp[qbN (P:=P) ha h1 hp hlu]
 | some b v hb =>
  simp[qbN (P:=P) hb h2 hq hu];cases hl with
  | none =>
   simp only[bOf,qFQ,qFR]at h1;obtain⟨rfl,rfl⟩:=h1;simp
  | some a v ha=>simp[qbN (P:=P) ha h1 hp hlu]
theorem qc3 (s:List UInt8):(ByteArray.mk s.toArray).size=s.length:=by simp[ByteArray.size]
theorem qm6 {id e cap l u:Nat} {r:Rg} {k:Nat} (hg:γ id=some r) (hc:(e+cap) * r.sz≤r.n) (h3:l≤u) (h4:u≤cap) (hsz:k=r.sz) :
  AVRel w Z γ (.slc id (e+l) (u-l) (cap-l)) (.slice (if cap=l then some (r.A.at (e * r.sz)) else Option.map (fun x=>x.add (l * k)) (some (r.A.at (e * r.sz)))) (u-l) (cap-l)):=by
 by_cases hm:cap=l
 ·have h0:u-l=0:=by omega
  have h00:cap-l=0:=by omega
  rw[h0,h00];exact .slc0 _ _ _ _
 ·rw[if_neg hm];have:(Option.map (fun x=>x.add (l * k)) (some (r.A.at (e * r.sz))))=some (r.A.at ((e+l) * r.sz)):=by
   simp only[qFX,qfM,hsz,qFW]
  rw[this];refine .slc _ _ _ _ _ r hg (by omega) ?_;rw[show e+l+(cap-l)=e+cap by omega];exact hc
theorem qkW (hh:HRel w Z γ h) {ty:Nat} {x:AV} {xv:Value} {lo hi:Option AV} {lv hv:Option Value} (hx:AVRel w Z γ x xv) (hl:OpRel w Z γ lo lv) (hi':OpRel w Z γ hi hv)
  {p:Prop} {v:AV} (he:qcr P h ty x lo hi=some (p,v)) (hp:p):∃ u,(Instr.sliceAt ty xv lv hv none).run P w=.ok u w∧AVRel w Z γ v u:=by
 cases hx with
 | str γ s =>
  simp only[qcr]at he;split at he
  ·rename_i p1 l q u sz by' ze e1 e2 ht;simp only[qFQ,qFR]at he;obtain⟨rfl,rfl⟩:=he;obtain⟨h1,h2,h3,h4⟩:=hp;have hb:=qbQ (P:=P) (isS:=false) (cap:=(ByteArray.mk s.toArray).size) (len:=(ByteArray.mk s.toArray).size) hl hi' e1 (by rw[qc3];exact e2) h1 h2 h3 (by rw[qc3];exact h4);refine⟨_,?_,.str _ _⟩;simp only[Instr.sliceAt,Sem.run_bind,qab (qfy ht rfl),Result.andThen_ok,Instr.slice,Option.isSome_none,qFY,if_false,Sem.run_ite,hb,Sem.run_pure];simp only[ByteArray.extract_mk]
  ·cases he
 | sl γ id e len cap r hg hlc hc =>
  simp only[qcr]at he;split at he
  ·rename_i p1 l q u el sz by' ze e1 e2 ht;split at he
   ·rename_i ie o hie ho;simp only[qFQ,qFR]at he;obtain⟨rfl,rfl⟩:=he;obtain⟨h1,h2,h3,h4,h5⟩:=hp;obtain⟨r',hr',hor⟩:=hh.obj _ _ ho;rw[hg]at hr';injection hr' with hr';subst hr';have hsz:ie.size=r.sz:=by rw[hor.sz,h5]
    have hb:=qbQ (P:=P) (isS:=true) (cap:=cap) hl hi' e1 e2 h1 h2 h3 (by omega);refine⟨_,by simp only[Instr.sliceAt,Sem.run_bind,qab (qaX ht rfl),Result.andThen_ok,Instr.slice,hb,qaH hie,Sem.run_pure];rfl,?_⟩;by_cases hm:cap=l
    ·have h0:u-l=0:=by omega
     have h00:cap-l=0:=by omega
     rw[h0,h00];exact .sl0 _ _ _ _
    ·rw[if_neg hm];have:(Option.map (fun x=>x.add (l * ie.size)) (some (r.A.at (e * r.sz))))=some (r.A.at ((e+l) * r.sz)):=by
      simp only[qFX,qfM,hsz,qFW]
     rw[this];refine .sl _ _ _ _ _ r hg (by omega) ?_;rw[show e+l+(cap-l)=e+cap by omega];exact hc
   ·cases he
  ·cases he
 | sl0 γ id e a =>
  simp only[qcr]at he;split at he
  ·rename_i p1 l q u el sz by' ze e1 e2 ht;split at he
   ·rename_i ie o hie ho;simp only[qFQ,qFR]at he;obtain⟨rfl,rfl⟩:=he;obtain⟨h1,h2,h3,h4,h5⟩:=hp;have hb:=qbQ (P:=P) (isS:=true) (cap:=0) hl hi' e1 e2 h1 h2 h3 (by omega);refine⟨_,by simp only[Instr.sliceAt,Sem.run_bind,qab (qaX ht rfl),Result.andThen_ok,Instr.slice,hb,qaH hie,Sem.run_pure];rfl,?_⟩;have h0:u-l=0:=by omega
    have h00:0-l=0:=by omega
    rw[h0,h00];exact .sl0 _ _ _ _
   ·cases he
  ·cases he
 | slc γ id e len cap r hg hlc hc =>
  simp only[qcr]at he;split at he
  ·rename_i p1 l q u el sz by' ze e1 e2 ht;split at he
   ·rename_i ie o hie ho;simp only[qFQ,qFR]at he;obtain⟨rfl,rfl⟩:=he;obtain⟨h1,h2,h3,h4,h5⟩:=hp;obtain⟨r',hr',hor⟩:=hh.obj _ _ ho;rw[hg]at hr';injection hr' with hr';subst hr';have hsz:ie.size=r.sz:=by rw[hor.sz,h5]
    have hb:=qbQ (P:=P) (isS:=true) (cap:=cap) hl hi' e1 e2 h1 h2 h3 (by omega);refine⟨_,by simp only[Instr.sliceAt,Sem.run_bind,qab (qaX ht rfl),Result.andThen_ok,Instr.slice,hb,qaH hie,Sem.run_pure];rfl,?_⟩;exact qm6 hg hc h3 h4 hsz
   ·cases he
  ·cases he
 | slc0 γ id e a =>
  simp only[qcr]at he;split at he
  ·rename_i p1 l q u el sz by' ze e1 e2 ht;split at he
   ·rename_i ie o hie ho;simp only[qFQ,qFR]at he;obtain⟨rfl,rfl⟩:=he;obtain⟨h1,h2,h3,h4,h5⟩:=hp;have hb:=qbQ (P:=P) (isS:=true) (cap:=0) hl hi' e1 e2 h1 h2 h3 (by omega);refine⟨_,by simp only[Instr.sliceAt,Sem.run_bind,qab (qaX ht rfl),Result.andThen_ok,Instr.slice,hb,qaH hie,Sem.run_pure];rfl,?_⟩;have h0:u-l=0:=by omega
    have h00:0-l=0:=by omega
    rw[h0,h00];exact .slc0 _ _ _ _
   ·cases he
  ·cases he
 | lst γ sz' els a cap vf hlc hc hs hr =>
  simp only[qcr]at he;split at he
  ·rename_i p1 l q u el sz by' ze e1 e2 ht;split at he
   ·rename_i ie hie;simp only[qFQ,qFR]at he;obtain⟨rfl,rfl⟩:=he;obtain⟨h1,h2,h3,h4,h5⟩:=hp;have hb:=qbQ (P:=P) (isS:=true) (cap:=cap) hl hi' e1 e2 h1 h2 h3 (by omega);refine⟨_,by simp only[Instr.sliceAt,Sem.run_bind,qab (qaX ht rfl),Result.andThen_ok,Instr.slice,hb,qaH hie,Sem.run_pure];rfl,?_⟩;have hlen:((els.drop l).take (u-l)).length=u-l:=by simp;omega
    have hget:∀ i,i<u-l→((els.drop l).take (u-l)).getD i []=els.getD (l+i) []:=fun i hi=>by
     simp[List.getD,qFV,hi]
    generalize hA':(if cap=l then a else Option.map (fun x=>x.add (l * ie.size)) a)=a'
    have:=AVRel.lst (w:=w) (Z:=Z) γ sz' ((els.drop l).take (u-l)) a' (cap-l) (fun i j=>vf (l+i) j) (by omega) (fun hn=>?_) (fun i hi=>?_) (fun i j hi hj=>?_)
    ·rwa [hlen]at this
    ·have hpos:0<u-l:=by rw[← hlen];exact qFZ.2 hn
     obtain⟨A,rfl,hz,hA,hcell⟩:=hc (by rintro rfl;simp at h4;omega);rw[if_neg (by omega)]at hA';refine⟨A.at (l * ie.size),by rw[← hA'];simp[qcB A hA],fun i j hi hj=>(by
      rw[hlen]at hi;have:=hz (l+i) j (by omega) hj;rw[qav,← h5]
      rwa [qFW,Nat.add_assoc]at this),rfl,fun i j hi hj=>?_⟩
     rw[hlen]at hi;rw[qav,← hcell (l+i) j (by omega) hj]
     congr 2
     rw[← h5,qFW];omega
    ·rw[hlen]at hi;rw[hget i hi];exact hs _ (by omega)
    ·rw[hlen]at hi;rw[hget i hi];exact hr _ _ (by omega) hj
   ·cases he
  ·cases he
 | nils γ =>
  simp only[qcr]at he;split at he
  ·rename_i p1 l q u el sz by' ze e1 e2 ht;split at he
   ·rename_i ie hie;simp only[qFQ,qFR]at he;obtain⟨rfl,rfl⟩:=he;obtain⟨h1,h2,rfl,rfl⟩:=hp;have hb:=qbQ (P:=P) (isS:=true) (cap:=0) hl hi' e1 e2 h1 h2 (by omega) (by omega);exact⟨_,by simp only[Instr.sliceAt,Sem.run_bind,qab (qaX ht rfl),Result.andThen_ok,Instr.slice,hb,qaH hie,Sem.run_pure];rfl,by simpa using AVRel.nils _⟩
   ·cases he
  ·cases he
 | ptr γ id e off r hg =>
  simp only[qcr]at he;split at he
  ·rename_i n el sz by' ze ht;split at he
   ·rename_i ie hie;simp only[qFQ,qFR]at he;obtain⟨rfl,rfl⟩:=he;cases hl;cases hi';refine⟨_,?_,.bsl _ id e off _ n r hg⟩;by_cases h0:n=0 <;>
    simp[Instr.sliceAt,qab (qht ht rfl),Instr.sureAddr,Instr.sliceBounds,qaH hie,h0,qfM]
   ·cases he
  ·cases he
 | elm γ cs A vf hA hz hc hr =>
  simp only[qcr]at he;split at he
  ·rename_i n el sz by' ze ht;split at he
   ·rename_i ie hie;simp only[qFQ,qFR]at he;obtain⟨rfl,rfl⟩:=he;cases hl;cases hi';have hlen:(qeJ ie.size n cs).length=n:=by simp[qeJ]
    have hget:∀ i,i<n→(qeJ ie.size n cs).getD i []=(cs.drop (i * ie.size)).take ie.size:=fun i hi=>by
     simp[qeJ,List.getD,hi]
    have hle:∀ i,i<n→i * ie.size+ie.size≤cs.length:=fun i hi=>by
     have:(i+1) * ie.size≤n * ie.size:=qF0 _ hi;rw[qFW]at this;omega
    have:=AVRel.lst (w:=w) (Z:=Z) γ ie.size (qeJ ie.size n cs) (some A) n (fun i j=>vf (i * ie.size+j)) (by omega) (fun hn=>?_) (fun i hi=>?_) (fun i j hi hj=>?_)
    ·refine⟨.slice (some A) n n,?_,by rwa [hlen]at this⟩;by_cases h0:n=0 <;>
     simp[Instr.sliceAt,qab (qht ht rfl),Instr.sureAddr,Instr.sliceBounds,qaH hie,h0,qcB A hA,qnR A hA]
    ·refine⟨A,rfl,fun i j hi hj=>hz _ (by rw[hlen]at hi;have:=hle i hi;omega),hA,fun i j hi hj=>hc _ ?_⟩;rw[hlen]at hi;have:=hle i hi;omega
    ·rw[hlen]at hi;rw[hget i hi];have:=hle i hi;simp;omega
    ·rw[hlen]at hi;rw[hget i hi];have:=hle i hi;have h1:=hr (i * ie.size+j) (by omega);simpa [List.getD,qFV,hj]using h1
   ·cases he
  ·cases he
 | _=>simp[qcr]at he
theorem qce {lo:Option AV} {lv:Option Value} {hi mx:AV} {hv mv:Value} (hl:OpRel w Z γ lo lv) (hh:AVRel w Z γ hi hv) (hm:AVRel w Z γ mx mv) {isS:Bool} {len cap l u m:Nat} {p q r:Prop}
  (h1:bOf 0 lo=some (p,l)) (h2:bOf 0 (some hi)=some (q,u)) (h3:bOf 0 (some mx)=some (r,m)) (hp:p) (hq:q) (hr:r) (hlu:l≤u) (hum:u≤m) (hmc:m≤cap) :
  (Instr.sliceBounds isS len cap lv (some hv) (some mv)).run P w=.ok (l,u,m) w:=by
 unfold Instr.sliceBounds;cases hl with
 | none =>
  simp only[bOf,qFQ,qFR]at h1;obtain⟨rfl,rfl⟩:=h1;simp[qbN (P:=P) hm h3 hr hmc,qbN (P:=P) hh h2 hq hum]
 | some a v ha =>
  simp[qbN (P:=P) hm h3 hr hmc,qbN (P:=P) hh h2 hq hum,qbN (P:=P) ha h1 hp hlu]
def qfq (P:Program) (h:Hp) (ty:Nat) (x:AV) (lo hi:Option AV) (mx:AV):Option (Prop×AV) :=
 match hi with
 | some hi=>match bOf 0 lo,bOf 0 (some hi),bOf 0 (some mx),qaA P ty with
  | some (p,l),some (q,u),some (r,m),some ⟨.slc el,_,_,_⟩=>match qaA P el with
   | some ie=>match x with
    | .sl id e len=>match h id with
     | some o=>some (p∧q∧r∧l≤u∧u≤m∧m≤len∧o.sz=ie.size,.slc id (e+l) (u-l) (m-l))
     | none=>none
    | .slc id e len cap=>match h id with
     | some o=>some (p∧q∧r∧l≤u∧u≤m∧m≤cap∧o.sz=ie.size,.slc id (e+l) (u-l) (m-l))
     | none=>none
    | .nils=>some (p∧q∧r∧l=0∧u=0∧m=0,.nils)
    | _=>none
   | none=>none
  | _,_,_,_=>none
 | none=>none
theorem qjn (hh:HRel w Z γ h) {ty:Nat} {x mx:AV} {xv mv:Value} {lo hi:Option AV} {lv hv:Option Value} (hx:AVRel w Z γ x xv) (hl:OpRel w Z γ lo lv) (hi':OpRel w Z γ hi hv) (hm:AVRel w Z γ mx mv)
  {p:Prop} {v:AV} (he:qfq P h ty x lo hi mx=some (p,v)) (hp:p):∃ u,(Instr.sliceAt ty xv lv hv (some mv)).run P w=.ok u w∧AVRel w Z γ v u:=by
 unfold qfq at he;cases hi' with
 | none=>cases he
 | some hi hv hi' =>
  simp only at he;split at he
  ·rename_i p1 l q u r m el sz by' ze e1 e2 e3 ht;split at he
   ·rename_i ie hie;split at he
    ·rename_i id e len;split at he
     ·rename_i o ho;simp only[qFQ,qFR]at he;obtain⟨rfl,rfl⟩:=he;obtain⟨h1,h2,h3,h4,h5,h6,h7⟩:=hp;obtain⟨r',hr',hor⟩:=hh.obj _ _ ho;cases hx with
      | sl _ _ _ _ cap r hg hlc hc =>
       rw[hg]at hr';injection hr' with hr';subst hr';have hsz:ie.size=r.sz:=by rw[hor.sz,h7]
       have hb:=qce (P:=P) (isS:=true) (len:=len) (cap:=cap) hl hi' hm e1 e2 e3 h1 h2 h3 h4 h5 (by omega);refine⟨_,by simp only[Instr.sliceAt,Sem.run_bind,qab (qaX ht rfl),Result.andThen_ok,Instr.slice,hb,qaH hie,Sem.run_pure];rfl,?_⟩;refine qm6 (cap:=m) hg (qFN (qF0 _ (by omega)) hc) h4 h5 hsz
      | sl0 _ _ _ a =>
       have hb:=qce (P:=P) (isS:=true) (len:=0) (cap:=0) hl hi' hm e1 e2 e3 h1 h2 h3 h4 h5 (by omega);refine⟨_,by simp only[Instr.sliceAt,Sem.run_bind,qab (qaX ht rfl),Result.andThen_ok,Instr.slice,hb,qaH hie,Sem.run_pure];rfl,?_⟩;have h0:u-l=0:=by omega
       have h00:m-l=0:=by omega
       rw[h0,h00];exact .slc0 _ _ _ _
     ·cases he
    ·rename_i id e len cp;split at he
     ·rename_i o ho;simp only[qFQ,qFR]at he;obtain⟨rfl,rfl⟩:=he;obtain⟨h1,h2,h3,h4,h5,h6,h7⟩:=hp;obtain⟨r',hr',hor⟩:=hh.obj _ _ ho;cases hx with
      | slc _ _ _ _ cap r hg hlc hc =>
       rw[hg]at hr';injection hr' with hr';subst hr';have hsz:ie.size=r.sz:=by rw[hor.sz,h7]
       have hb:=qce (P:=P) (isS:=true) (len:=len) (cap:=cp) hl hi' hm e1 e2 e3 h1 h2 h3 h4 h5 (by omega);refine⟨_,by simp only[Instr.sliceAt,Sem.run_bind,qab (qaX ht rfl),Result.andThen_ok,Instr.slice,hb,qaH hie,Sem.run_pure];rfl,?_⟩;refine qm6 (cap:=m) hg (qFN (qF0 _ (by omega)) hc) h4 h5 hsz
      | slc0 _ _ _ a =>
       have hb:=qce (P:=P) (isS:=true) (len:=0) (cap:=0) hl hi' hm e1 e2 e3 h1 h2 h3 h4 h5 (by omega);refine⟨_,by simp only[Instr.sliceAt,Sem.run_bind,qab (qaX ht rfl),Result.andThen_ok,Instr.slice,hb,qaH hie,Sem.run_pure];rfl,?_⟩;have h0:u-l=0:=by omega
       have h00:m-l=0:=by omega
       rw[h0,h00];exact .slc0 _ _ _ _
     ·cases he
    ·simp only[qFQ,qFR]at he;obtain⟨rfl,rfl⟩:=he;obtain⟨h1,h2,h3,rfl,rfl,rfl⟩:=hp;cases hx;have hb:=qce (P:=P) (isS:=true) (len:=0) (cap:=0) hl hi' hm e1 e2 e3 h1 h2 h3 (by omega) (by omega) (by omega);exact⟨_,by simp only[Instr.sliceAt,Sem.run_bind,qab (qaX ht rfl),Result.andThen_ok,Instr.slice,hb,qaH hie,Sem.run_pure];rfl,by simpa using AVRel.nils _⟩
    ·cases he
   ·cases he
  ·cases he
def qsq (P:Program) (ty:Nat):AV→Option (Prop×AV)
 | .slc _ _ _ cap=>match qaA P ty with
  | some ⟨.slc _,_,_,_⟩=>some (True,.int .i64 cap)
  | _=>none
 | .nils=>match qaA P ty with
  | some ⟨.slc _,_,_,_⟩=>some (True,.int .i64 0)
  | _=>none
 | _=>none
theorem qnz {ty rt:Nat} {x:AV} {xv:Value} (hx:AVRel w Z γ x xv) {p:Prop} {v:AV} (he:qsq P ty x=some (p,v)) (hp:p) :
  ∃ u,(Builtin.cap_ #[ty] rt #[xv]).run P w=.ok u w∧AVRel w Z γ v u:=by
 cases hx <;> simp only[qsq,reduceCtorEq]at he
 all_goals
  split at he
  ·rename_i ht;simp only[qFQ,qFR]at he;obtain⟨rfl,rfl⟩:=he;exact⟨_,by simp[Builtin.cap_,qab (qaX ht rfl),goInt],.int _ _ _⟩
  ·cases he
def qhe (P:Program) (ty:Nat) (x i:AV):Option (Prop×AV) :=
 match i with
 | .int _ n=>match qaA P ty,x with
  | some ⟨.arr len el,_,_,_⟩,.agg cs=>match qaA P el with
   | some ie=>if ie.td.agg then some (0≤n∧n<len∧n.toNat * ie.size+ie.size≤cs.length,.agg ((cs.drop (n.toNat * ie.size)).take ie.size))
    else some (0≤n∧n<len∧n.toNat * ie.size<cs.length,cs.getD (n.toNat * ie.size) .top)
   | none=>none
  | some ⟨.str,_,_,_⟩,.str s=>some (0≤n∧n<s.length,.int .u8 (s.getD n.toNat 0).toNat)
  | _,_=>none
 | _=>none
theorem CRel.part {cs:List AV} {vs:Array Value} (hr:CRel w Z γ cs vs) {t:Nat} {i:TI} (ht:qaA P t=some i) (off:Nat) :
  (i.td.agg=true→off+i.size≤cs.length→∃ u,(part t vs off).run P w=.ok u w∧AVRel w Z γ (.agg ((cs.drop off).take i.size)) u) ∧
  (i.td.agg=false→off<cs.length→∃ u,(part t vs off).run P w=.ok u w∧AVRel w Z γ (cs.getD off .top) u):=by
 refine⟨fun ha hk=>?_,fun ha hk=>?_⟩
 ·refine⟨.agg (vs.extract off (off+i.size)),by simp[Go.part,qea ht,ha,qaH ht],.agg _ _ _ ?_ fun j hj=>?_⟩
  ·have:=hr.1;simp;omega
  ·simp only[qFT,qFU]at hj;have h1:((cs.drop off).take i.size).getD j .top=cs.getD (off+j) .top:=by
    simp[List.getD,qFV,show j<i.size by omega]
   have h2:(vs.extract off (off+i.size)).getD j undef=vs.getD (off+j) undef:=by
    have:=hr.1;simp only[qF1,qF2];rw[if_pos (by omega)]
   rw[h1,h2];exact hr.2 _ (by omega)
 ·have hv:vs[off]?=some (vs.getD off undef):=by
   have:=hr.1;simp[Array.getD,show off<vs.size by omega]
  generalize hx:vs.getD off undef=x at hv;have hrx:=hr.2 _ hk;rw[hx]at hrx;exact⟨x,by simp[Go.part,qea ht,ha,hv],hrx⟩
theorem qkX {ty:Nat} {x i:AV} {xv iv:Value} (hx:AVRel w Z γ x xv) (hi:AVRel w Z γ i iv) {p:Prop} {v:AV}
  (he:qhe P ty x i=some (p,v)) (hp:p):∃ u,(Instr.index ty xv iv).run P w=.ok u w∧AVRel w Z γ v u:=by
 cases hi <;> simp only[qhe,reduceCtorEq]at he;rename_i k n;split at he
 ·rename_i len el sz by' ze cs ht;cases hx with
  | agg _ _ vs hs hr =>
  have hcr:CRel w Z γ cs vs:=⟨hs,hr⟩;cases hie:qaA P el with
  | none=>simp[hie]at he
  | some ie =>
   simp only[hie]at he;by_cases ha:ie.td.agg=true
   ·rw[if_pos ha]at he;simp only[qFQ,qFR]at he;obtain⟨rfl,rfl⟩:=he;obtain⟨h0,h1,h2⟩:=hp;obtain⟨u,hu,hr'⟩:=(hcr.part (P:=P) hie _).1 ha h2;exact⟨u,by simp[Instr.index,asIntOf,qab (qht ht rfl),h0,h1,qaH hie,hu],hr'⟩
   ·have ha':ie.td.agg=false:=by simpa using ha
    rw[if_neg ha]at he;simp only[qFQ,qFR]at he;obtain⟨rfl,rfl⟩:=he;obtain⟨h0,h1,h2⟩:=hp;obtain⟨u,hu,hr'⟩:=(hcr.part (P:=P) hie _).2 ha' h2;exact⟨u,by simp[Instr.index,asIntOf,qab (qht ht rfl),h0,h1,qaH hie,hu],hr'⟩
 ·rename_i sz by' ze s ht;cases hx;simp only[qFQ,qFR]at he;obtain⟨rfl,rfl⟩:=he;obtain⟨h0,h1⟩:=hp;have hlt:n.toNat<s.length:=by omega
  have hg:(ByteArray.mk s.toArray)[n.toNat]?=some (s.getD n.toNat 0):=by
   rw[ByteArray.getElem?_lt' _ _ (by rw[qc3];exact hlt)]
   congr 1
   rw[List.getD,qF3 hlt];rfl
  refine⟨_,?_,.int _ _ _⟩;simp only[Instr.index,asIntOf,Sem.run_bind,Sem.run_pure,Result.andThen_ok,qab (qfy ht rfl),h0,if_true,hg]
 ·cases he
def qi5 (P:Program) (s f:Nat):AV→Option (Prop×AV)
 | .agg cs=>match qaA P s with
  | some ⟨.srt fs,_,_,_⟩=>match fs[f]? with
   | some (fo,ft)=>match qaA P ft with
    | some i=>if i.td.agg then some (fo+i.size≤cs.length,.agg ((cs.drop fo).take i.size)) else some (fo<cs.length,cs.getD fo .top)
    | none=>none
   | none=>none
  | _=>none
 | _=>none
theorem qkY {s f:Nat} {x:AV} {xv:Value} (hx:AVRel w Z γ x xv) {p:Prop} {v:AV} (he:qi5 P s f x=some (p,v)) (hp:p) :
  ∃ u,(Instr.field s xv f).run P w=.ok u w∧AVRel w Z γ v u:=by
 cases hx with
 | agg _ cs vs hs hr =>
  have hcr:CRel w Z γ cs vs:=⟨hs,hr⟩;simp only[qi5]at he;split at he
  ·rename_i fs sz by' ze hss;split at he
   ·rename_i fo ft hf;split at he
    ·rename_i i hi;obtain⟨gs,hg1,hg2⟩:=qqu hss rfl;have hgf:∃ fl:Field,gs[f]?=some fl∧fl.offset=fo∧fl.type=ft:=by
      rw[← hg2]at hf;simp at hf;obtain⟨fl,hfl,h5,h6⟩:=hf;exact⟨fl,hfl,h5,h6⟩
     obtain⟨fl,hfl,rfl,rfl⟩:=hgf;by_cases ha:i.td.agg=true
     ·rw[if_pos ha]at he;simp only[qFQ,qFR]at he;obtain⟨rfl,rfl⟩:=he;obtain⟨u,hu,hr'⟩:=(hcr.part (P:=P) hi _).1 ha hp;exact⟨u,by simp[Instr.field,qab hg1,hfl,asAgg,hu],hr'⟩
     ·have ha':i.td.agg=false:=by simpa using ha
      rw[if_neg ha]at he;simp only[qFQ,qFR]at he;obtain⟨rfl,rfl⟩:=he;obtain⟨u,hu,hr'⟩:=(hcr.part (P:=P) hi _).2 ha' hp;exact⟨u,by simp[Instr.field,qab hg1,hfl,asAgg,hu],hr'⟩
    ·cases he
   ·cases he
  ·cases he
 | _=>simp[qi5]at he
def qpX (P:Program) (ty:Nat):AV→Option (Prop×AV)
 | .str s=>match qaA P ty with
  | some ⟨.str,_,_,_⟩=>some (True,.int .i64 s.length)
  | _=>none
 | .sl _ _ len=>match qaA P ty with
  | some ⟨.slc _,_,_,_⟩=>some (True,.int .i64 len)
  | _=>none
 | .slc _ _ len _=>match qaA P ty with
  | some ⟨.slc _,_,_,_⟩=>some (True,.int .i64 len)
  | _=>none
 | .bsl _ _ _ _ n=>match qaA P ty with
  | some ⟨.slc _,_,_,_⟩=>some (True,.int .i64 n)
  | _=>none
 | .lst _ els=>match qaA P ty with
  | some ⟨.slc _,_,_,_⟩=>some (True,.int .i64 els.length)
  | _=>none
 | .nils=>match qaA P ty with
  | some ⟨.slc _,_,_,_⟩=>some (True,.int .i64 0)
  | _=>none
 | _=>match qaA P ty with
  | some ⟨.arr n _,_,_,_⟩=>some (True,.int .i64 n)
  | _=>none
theorem qnw {ty rt:Nat} {x:AV} {xv:Value} (hx:AVRel w Z γ x xv) {p:Prop} {v:AV} (he:qpX P ty x=some (p,v)) (hp:p) :
  ∃ u,(Builtin.len_ #[ty] rt #[xv]).run P w=.ok u w∧AVRel w Z γ v u:=by
 have arr:∀ n e sz b z,qaA P ty=some ⟨.arr n e,sz,b,z⟩→(Builtin.len_ #[ty] rt #[xv]).run P w=.ok (.int .i64 n) w:=fun n e sz b z ht=>by
  simp[Builtin.len_,qab (qht ht rfl),goInt]
 cases hx <;> simp only[qpX]at he
 case str s =>
  split at he
  ·rename_i ht;simp only[qFQ,qFR]at he;obtain⟨rfl,rfl⟩:=he;refine⟨_,?_,.int _ _ _⟩;simp only[Builtin.len_,Sem.run_bind,qab (qfy ht rfl),Result.andThen_ok,goInt,qc3,qF4,qF5,Sem.run_pure]
  ·cases he
 case sl =>
  split at he
  ·rename_i ht;simp only[qFQ,qFR]at he;obtain⟨rfl,rfl⟩:=he;exact⟨_,by simp[Builtin.len_,qab (qaX ht rfl),goInt],.int _ _ _⟩
  ·cases he
 case sl0 =>
  split at he
  ·rename_i ht;simp only[qFQ,qFR]at he;obtain⟨rfl,rfl⟩:=he;exact⟨_,by simp[Builtin.len_,qab (qaX ht rfl),goInt],.int _ _ _⟩
  ·cases he
 case slc =>
  split at he
  ·rename_i ht;simp only[qFQ,qFR]at he;obtain⟨rfl,rfl⟩:=he;exact⟨_,by simp[Builtin.len_,qab (qaX ht rfl),goInt],.int _ _ _⟩
  ·cases he
 case slc0 =>
  split at he
  ·rename_i ht;simp only[qFQ,qFR]at he;obtain⟨rfl,rfl⟩:=he;exact⟨_,by simp[Builtin.len_,qab (qaX ht rfl),goInt],.int _ _ _⟩
  ·cases he
 case bsl =>
  split at he
  ·rename_i ht;simp only[qFQ,qFR]at he;obtain⟨rfl,rfl⟩:=he;exact⟨_,by simp[Builtin.len_,qab (qaX ht rfl),goInt],.int _ _ _⟩
  ·cases he
 case lst =>
  split at he
  ·rename_i ht;simp only[qFQ,qFR]at he;obtain⟨rfl,rfl⟩:=he;exact⟨_,by simp[Builtin.len_,qab (qaX ht rfl),goInt],.int _ _ _⟩
  ·cases he
 case nils =>
  split at he
  ·rename_i ht;simp only[qFQ,qFR]at he;obtain⟨rfl,rfl⟩:=he;exact⟨_,by simp[Builtin.len_,qab (qaX ht rfl),goInt],.int _ _ _⟩
  ·cases he
 all_goals
  split at he
  ·rename_i ht;simp only[qFQ,qFR]at he;obtain⟨rfl,rfl⟩:=he;exact⟨_,arr _ _ _ _ _ ht,.int _ _ _⟩
  ·cases he
end
end Go.Av
end
section
namespace Go.Av
open Go.RowKit
def qyI:AV→AV→Bool
 | .int _ a,.int _ b=>a == b
 | .bool a,.bool b=>a == b
 | .str a,.str b=>a == b
 | _,_=>false
def qfL:List AV→List AV→Bool
 | [],[]=>true
 | a::r,b::s=>qyI a b && qfL r s
 | _,_=>false
def sh1:AV→AV→Bool
 | .int k _,.int k' _=>decide (k=k')
 | .bool _,.bool _=>true
 | .str _,.str _=>true
 | _,_=>false
def shL:List AV→List AV→Bool
 | [],[]=>true
 | a::r,b::s=>sh1 a b && shL r s
 | _,_=>false
theorem qf1:∀ {a c:List AV} (b d:List AV),a.length=c.length→qfL (a++b) (c++d)=(qfL a c && qfL b d)
 | [],[],b,d,_=>by simp[qfL]
 | x::a,y::c,b,d,h=>by simp[qfL,qf1 (a:=a) (c:=c) b d (by simpa using h),qF6]
theorem qd7:∀ {a b:List AV},shL a b=true→a.length=b.length
 | [],[],_=>rfl
 | x::a,y::b,h=>by simp[shL]at h;simp[qd7 h.2]
 | [],_::_,h=>by simp[shL]at h
 | _::_,[],h=>by simp[shL]at h
theorem qgJ:∀ {a c:List AV} (b d:List AV),a.length=c.length→shL (a++b) (c++d)=(shL a c && shL b d)
 | [],[],b,d,_=>by simp[shL]
 | x::a,y::c,b,d,h=>by simp[shL,qgJ (a:=a) (c:=c) b d (by simpa using h),qF6]
theorem qqU {a b c:AV} (h:sh1 a b=true) (k:sh1 b c=true):sh1 a c=true:=by
 cases a <;> cases b <;> simp only[sh1,reduceCtorEq,qFY]at h <;> cases c <;> simp_all [sh1]
theorem qtr {a b:AV} (h:sh1 a b=true):sh1 b a=true:=by
 cases a <;> cases b <;> simp_all [sh1]
theorem qdy:∀ {a b c:List AV},shL a b=true→shL b c=true→shL a c=true
 | [],[],[],_,_=>rfl
 | x::a,y::b,z::c,h,k=>by
  simp only[shL,Bool.and_eq_true]at h k ⊢;exact⟨qqU h.1 k.1,qdy h.2 k.2⟩
 | [],_::_,_,h,_=>by simp[shL]at h
 | _::_,[],_,h,_=>by simp[shL]at h
 | [],[],_::_,_,k=>by simp[shL]at k
 | _::_,_::_,[],_,k=>by simp[shL]at k
theorem qkk:∀ {a b:List AV},shL a b=true→shL b a=true
 | [],[],_=>rfl
 | x::a,y::b,h=>by
  simp only[shL,Bool.and_eq_true]at h ⊢;exact⟨qtr h.1,qkk h.2⟩
 | [],_::_,h=>by simp[shL]at h
 | _::_,[],h=>by simp[shL]at h
theorem qhQ {a b:List AV} (n:Nat) (h:shL a b=true):shL (a.take n) (b.take n)=true:=by
 have hl:=qd7 h;rw[← List.take_append_drop n a,← List.take_append_drop n b,qgJ _ _ (by simp[hl]),Bool.and_eq_true]at h;exact h.1
theorem qhR {a b:List AV} (n:Nat) (h:shL a b=true):shL (a.drop n) (b.drop n)=true:=by
 have hl:=qd7 h;rw[← List.take_append_drop n a,← List.take_append_drop n b,qgJ _ _ (by simp[hl]),Bool.and_eq_true]at h;exact h.2
mutual
def qqh (P:Program):Nat→Nat→Bool
 | 0,_=>false
 | d+1,t=>match qaA P t,P.underlying t with
  | some i,some .bool=>i.size == 1 && shL i.zero [.bool false]
  | some i,some (.int k)=>i.size == 1 && shL i.zero [.int k 0]
  | some i,some .string=>i.size == 1 && shL i.zero [.str []]
  | some i,some (.struct fs)=>!P.stoodInHeld t && i.zero.length == i.size && qul P d i.zero fs.toList 0 i.size
  | some i,some (.array n e)=>qqh P d e && i.zero.length == i.size && (match qaA P e with
   | some ie=>i.size == n * ie.size && (List.range n).all (fun j=>shL ie.zero ((i.zero.drop (j * ie.size)).take ie.size))
   | none=>false)
  | _,_=>false
def qul (P:Program) (d:Nat) (zero:List AV):List Field→Nat→Nat→Bool
 | [],off,total=>off == total
 | f::r,off,total=>f.name != "_" && f.offset == off && qqh P d f.type && (match qaA P f.type with
  | some i=>shL i.zero ((zero.drop off).take i.size) && decide (off+i.size≤total) && qul P d zero r (off+i.size) total
  | none=>false)
end
section
variable {P:Program} {w:World} {Z:Addr→Prop} {γ:Gm}
def Win (cs:List AV) (off n:Nat):List AV:=(cs.drop off).take n
def EqS (P:Program) (w:World) (Z:Addr→Prop) (γ:Gm) (D t:Nat):Prop :=
 ∀ (i:TI),qaA P t=some i→∀ (xs ys:Array Value) (cs ds:List AV),CRel w Z γ cs xs→CRel w Z γ ds ys→∀ off,off+i.size≤cs.length→off+i.size≤ds.length →
  shL i.zero (Win cs off i.size)=true→shL i.zero (Win ds off i.size)=true →
  ∃ x y,(part t xs off).run P w=.ok x w∧(part t ys off).run P w=.ok y w∧(Op.equalIn D t x y).run P w=.ok (qfL (Win cs off i.size) (Win ds off i.size)) w
theorem qkd {cs:List AV} {off:Nat} (h:off+1≤cs.length):Win cs off 1=[cs.getD off .top]:=by
 unfold Win;have h':off<cs.length:=by omega
 rw[qF7 h',qF8,qF9];simp[List.getD,h']
theorem qst {D t:Nat} {i:TI} {z:AV} (ht:qaA P t=some i) (ha:i.td.agg=false) (hs:i.size=1) (hz:shL i.zero [z]=true)
  (hE:∀ a b,sh1 z a=true→sh1 z b=true→∀ x y,AVRel w Z γ a x→AVRel w Z γ b y→(Op.equalIn D t x y).run P w=.ok (qyI a b) w):EqS P w Z γ D t:=by
 intro i' hi' xs ys cs ds hx hy off h1 h2 hc hd;rw[ht]at hi';injection hi' with hi';subst hi';rw[hs]at h1 h2;rw[hs,qkd h1]at hc;rw[hs,qkd h2]at hd;rw[hs,qkd h1,qkd h2];obtain⟨x,hx1,hx2⟩:=(hx.part (P:=P) ht off).2 ha (by omega);obtain⟨y,hy1,hy2⟩:=(hy.part (P:=P) ht off).2 ha (by omega);refine⟨x,y,hx1,hy1,?_⟩;have hc':=qdy (qkk hz) hc;have hd':=qdy (qkk hz) hd;simp only[shL,qGa]at hc' hd';rw[hE _ _ hc' hd' x y hx2 hy2];simp[qfL]
theorem qft {cs:List AV} {off n:Nat} (h:off+n≤cs.length):(Win cs off n).length=n:=by simp[Win];omega
theorem CRel.win {cs:List AV} {xs:Array Value} (h:CRel w Z γ cs xs) {t:Nat} {i:TI} (ht:qaA P t=some i) (ha:i.td.agg=true) (off:Nat) (ho:off+i.size≤cs.length) :
  ∃ us,(Go.part t xs off).run P w=.ok (.agg us) w∧CRel w Z γ (Win cs off i.size) us:=by
 obtain⟨u,hu,hr⟩:=(h.part (P:=P) ht off).1 ha ho;cases hr with
 | agg _ _ vs hs hr=>exact⟨vs,hu,hs,hr⟩
theorem qkb {a b:List AV} (n:Nat) (hl:a.length=b.length):qfL a b=(qfL (a.take n) (b.take n) && qfL (a.drop n) (b.drop n)):=by
 conv=>lhs;rw[← List.take_append_drop n a,← List.take_append_drop n b]
 rw[qf1 _ _ (by simp[hl])]
theorem qjX {D d:Nat} (ih:∀ t,qqh P d t=true→EqS P w Z γ D t) (zero:List AV) (xs ys:Array Value) (cs ds:List AV) (hx:CRel w Z γ cs xs) (hy:CRel w Z γ ds ys) (total:Nat)
  (h1:cs.length=total) (h2:ds.length=total) (hc:shL zero cs=true) (hd:shL zero ds=true):∀ (fs:List Field) (off:Nat),qul P d zero fs off total=true→off≤total →
  (Op.eqFields D xs ys fs).run P w=.ok (qfL (cs.drop off) (ds.drop off)) w
 | [],off,hk,ho=>by
  simp[qul]at hk;subst hk;rw[qGb (by omega),qGb (by omega)];simp[Op.eqFields,qfL]
 | f::r,off,hk,ho=>by
  simp only[qul,Bool.and_eq_true]at hk;obtain⟨⟨⟨hn,hof⟩,hok⟩,hm⟩:=hk;cases hi:qaA P f.type with
  | none=>simp[hi]at hm
  | some i =>
   simp only[hi,Bool.and_eq_true,decide_eq_true_eq]at hm;obtain⟨⟨hzw,hle⟩,hrest⟩:=hm;have hof':f.offset=off:=by simpa using hof
   have hn':f.name≠ "_":=by simpa using hn
   obtain⟨x,y,p1,p2,p3⟩:=ih _ hok i hi xs ys cs ds hx hy off (by omega) (by omega) (qdy hzw (qhQ _ (qhR _ hc))) (qdy hzw (qhQ _ (qhR _ hd)));have hrec:=qjX ih zero xs ys cs ds hx hy total h1 h2 hc hd r (off+i.size) hrest (by omega);simp only[Op.eqFields,if_pos hn',hof',Sem.run_bind,p1,p2,p3,Result.andThen_ok];rw[qkb i.size (a:=cs.drop off) (by simp[h1,h2]),qGc,qGc];show _=Result.ok (qfL (Win cs off i.size) (Win ds off i.size) && _) w;cases hb:qfL (Win cs off i.size) (Win ds off i.size)with
   | false=>simp
   | true=>simp[hrec]
theorem qgt {D:Nat} {e:Nat} {ie:TI} (he:qaA P e=some ie) (hc:P.cellsOf e=ie.size) (ih:EqS P w Z γ D e) (zero:List AV) (xs ys:Array Value) (cs ds:List AV) (hx:CRel w Z γ cs xs) (hy:CRel w Z γ ds ys)
  (n:Nat) (h1:cs.length=n * ie.size) (h2:ds.length=n * ie.size) (hzc:shL zero cs=true) (hzd:shL zero ds=true) (hall:∀ j,j<n→shL ie.zero ((zero.drop (j * ie.size)).take ie.size)=true):∀ (m k:Nat),k+m=n →
  (Op.eqItems D e (P.cellsOf e) xs ys (List.range' k m)).run P w=.ok (qfL (cs.drop (k * ie.size)) (ds.drop (k * ie.size))) w
 | 0,k,hk=>by
  have:k=n:=by omega
  subst this;rw[qGb (by omega),qGb (by omega)];simp[Op.eqItems,qfL]
 | m+1,k,hk=>by
  have hle:k * ie.size+ie.size≤n * ie.size:=by
   have:(k+1) * ie.size≤n * ie.size:=qF0 _ (by omega)
   rwa [qFW,qGd]at this
  have hz:=hall k (by omega);obtain⟨x,y,p1,p2,p3⟩:=ih ie he xs ys cs ds hx hy (k * ie.size) (by omega) (by omega) (qdy hz (qhQ _ (qhR _ hzc))) (qdy hz (qhQ _ (qhR _ hzd)));have hrec:=qgt he hc ih zero xs ys cs ds hx hy n h1 h2 hzc hzd hall m (k+1) (by omega);rw[List.range'_succ];simp only[Op.eqItems,hc,Sem.run_bind,p1,p2,p3,Result.andThen_ok];rw[hc]at hrec;rw[qkb ie.size (a:=cs.drop (k * ie.size)) (by simp[h1,h2]),qGc,qGc];have e1:k * ie.size+ie.size=(k+1) * ie.size:=by rw[qFW,qGd]
  rw[e1];show _=Result.ok (qfL (Win cs (k * ie.size) ie.size) (Win ds (k * ie.size) ie.size) && _) w;cases hb:qfL (Win cs (k * ie.size) ie.size) (Win ds (k * ie.size) ie.size)with
  | false=>simp
  | true=>simp[hrec]
theorem qj5 {t:Nat} {i:TI} (h:qaA P t=some i):P.cellsOf t=i.size:=by
 obtain⟨d,f,z,hd,htd,hf,hs,_⟩:=qbA h;simp[Program.cellsOf,hf,hs]
theorem qjW:∀ (d t:Nat),qqh P d t=true→∀ D,EqS P w Z γ (D+d) t
 | 0,t,h,_=>by simp[qqh]at h
 | d+1,t,h,D=>by
  have ih:∀ t,qqh P d t=true→EqS P w Z γ (D+d) t:=fun t ht=>qjW d t ht D;unfold qqh at h;cases ht:qaA P t with
  | none=>simp[ht]at h
  | some i =>
   obtain⟨dd,f,z,hd,htd,hf,hs,_⟩:=qbA ht;cases dd with
   | bool =>
    simp only[ht,hd,Bool.and_eq_true]at h;refine qst ht (by rw[← htd];rfl) (by simpa using h.1) h.2 fun a b ha hb x y hx hy=>?_;cases hx <;> simp only[sh1,reduceCtorEq,qFY]at ha;cases hy <;> simp only[sh1,reduceCtorEq,qFY]at hb;exact run_equalIn_bool' w (D+d) t _ _ hd
   | int k =>
    simp only[ht,hd,Bool.and_eq_true]at h;refine qst ht (by rw[← htd];rfl) (by simpa using h.1) h.2 fun a b ha hb x y hx hy=>?_;cases hx <;> simp only[sh1,reduceCtorEq,qFY,decide_eq_true_eq]at ha;cases hy <;> simp only[sh1,reduceCtorEq,qFY,decide_eq_true_eq]at hb;subst ha;subst hb;exact run_equalIn_int w (D+d) t _ _ _ _ hd
   | string =>
    simp only[ht,hd,Bool.and_eq_true]at h;refine qst ht (by rw[← htd];rfl) (by simpa using h.1) h.2 fun a b ha hb x y hx hy=>?_;cases hx <;> simp only[sh1,reduceCtorEq,qFY]at ha;cases hy <;> simp only[sh1,reduceCtorEq,qFY]at hb;rw[show D+(d+1)=D+d+1 from rfl,run_equalIn_string w (D+d) t _ _ hd,qji,qji];rfl
   | struct fs =>
    simp only[ht,hd,Bool.and_eq_true]at h;obtain⟨⟨h1,h2⟩,h3⟩:=h;intro i' hi' xs ys cs ds hx hy off g1 g2 gc gd;rw[ht]at hi';injection hi' with hi';subst hi';have ha:i.td.agg=true:=by rw[← htd];rfl
    obtain⟨us,pu,ru⟩:=hx.win (P:=P) ht ha off g1;obtain⟨vs,pv,rv⟩:=hy.win (P:=P) ht ha off g2;refine⟨_,_,pu,pv,?_⟩;have hf':P.fieldsOf t=fs:=by simp[Program.fieldsOf,hd]
    rw[show D+(d+1)=D+d+1 from rfl,run_equalIn_struct w (D+d) t us vs (by rw[hf'];exact hd) (by simpa using h1),hf'];have:=qjX (D:=D+d) ih i.zero us vs _ _ ru rv i.size (qft g1) (qft g2) gc gd fs.toList 0 h3 (qGe _);simpa using this
   | array n e =>
    simp only[ht,hd,Bool.and_eq_true]at h;obtain⟨⟨h1,h2⟩,h3⟩:=h;cases he:qaA P e with
    | none=>simp[he]at h3
    | some ie =>
     simp only[he,Bool.and_eq_true,qGf,qGg]at h3;have hsz:i.size=n * ie.size:=by simpa using h3.1
     intro i' hi' xs ys cs ds hx hy off g1 g2 gc gd;rw[ht]at hi';injection hi' with hi';subst hi';have ha:i.td.agg=true:=by rw[← htd];rfl
     obtain⟨us,pu,ru⟩:=hx.win (P:=P) ht ha off g1;obtain⟨vs,pv,rv⟩:=hy.win (P:=P) ht ha off g2;refine⟨_,_,pu,pv,?_⟩;obtain⟨de,fe,ze,hde,htde,hfe,hse,_⟩:=qbA he;rw[show D+(d+1)=D+d+1 from rfl,run_equalIn_array w (D+d) us vs hd hfe];have:=qgt (D:=D+d) he (qj5 he) (ih e h1) i.zero us vs _ _ ru rv n (by rw[qft g1,hsz]) (by rw[qft g2,hsz]) gc gd h3.2 n 0 (by omega);rw[List.range_eq_range'];simpa using this
   | _=>simp[ht,hd]at h
def qoY (P:Program) (t:Nat):Bool:=qqh P 8 t && !P.eqGuardType P.depth t
theorem qBA {t:Nat} {i:TI} (hk:qoY P t=true) (ht:qaA P t=some i) (hagg:i.td.agg=true) {cs ds:List AV} {xs ys:Array Value} (hx:CRel w Z γ cs xs) (hy:CRel w Z γ ds ys)
  (hc:shL i.zero cs=true) (hd:shL i.zero ds=true) (hs:i.zero.length=i.size):
  (Op.equalIn 10000 t (.agg xs) (.agg ys)).run P w=.ok (qfL cs ds) w:=by
 simp only[qoY,Bool.and_eq_true]at hk;have hlc:cs.length=i.size:=by rw[← qd7 hc,hs]
 have hld:ds.length=i.size:=by rw[← qd7 hd,hs]
 have hE:=qjW (w:=w) (Z:=Z) (γ:=γ) 8 t hk.1 9992 i ht xs ys cs ds hx hy 0 (by omega) (by omega)
  (by simpa [Win,qGh (qGi hlc)]using hc) (by simpa [Win,qGh (qGi hld)]using hd)
 obtain⟨x,y,p1,p2,p3⟩:=hE;have e1:xs.extract 0 (0+i.size)=xs:=by
  have:=hx.1;apply qFP;intro j;simp[qF2];omega
 have e2:ys.extract 0 (0+i.size)=ys:=by
  have:=hy.1;apply qFP;intro j;simp[qF2];omega
 simp only[Go.part,Sem.run_bind,qea ht,hagg,Result.andThen_ok,if_true,qaH ht,e1,Sem.run_pure,Result.ok.injEq,and_true]at p1;simp only[Go.part,Sem.run_bind,qea ht,hagg,Result.andThen_ok,if_true,qaH ht,e2,Sem.run_pure,Result.ok.injEq,and_true]at p2;subst p1;subst p2;rw[p3];simp[Win,qGh (qGi hlc),qGh (qGi hld)]
end
end Go.Av
end
section
namespace Go.Av
open Go.RowKit
section
variable {P:Program} {w:World} {Z:Addr→Prop} {γ:Gm} {h:Hp}
theorem qd2 (off:Nat):∀ (vs:List Value) (k:Nat) (arr:Array Value),
  ((vs.zipIdx k).foldl (fun(cs:Array Value) (x:Value×Nat)=>cs.setIfInBounds (off+x.2) x.1) arr).size=arr.size ∧
  ∀ j,((vs.zipIdx k).foldl (fun(cs:Array Value) (x:Value×Nat)=>cs.setIfInBounds (off+x.2) x.1) arr)[j]? =
   if off+k≤j∧j<off+k+vs.length∧j<arr.size then vs[j-(off+k)]? else arr[j]?
 | [],k,arr=>by
  refine⟨rfl,fun j=>?_⟩;rw[if_neg (by simp;omega)];rfl
 | v::r,k,arr=>by
  rw[List.zipIdx_cons,qGj];obtain⟨h1,h2⟩:=qd2 off r (k+1) (arr.setIfInBounds (off+k) v);refine⟨by rw[h1];simp,fun j=>?_⟩;rw[h2 j];simp only[Array.size_setIfInBounds,qGk];by_cases h3:off+(k+1)≤j∧j<off+(k+1)+r.length∧j<arr.size
  ·rw[if_pos h3,if_pos (by omega)];rw[show j-(off+k)=(j-(off+(k+1)))+1 by omega,qGl]
  ·rw[if_neg h3,qGm];by_cases h4:off+k=j
   ·subst h4;by_cases h5:off+k<arr.size
    ·rw[if_pos rfl,if_pos h5,if_pos (by omega)];simp
    ·rw[if_pos rfl,if_neg h5,if_neg (by omega)];simp;omega
   ·rw[if_neg h4,if_neg (by omega)]
theorem qe5 (off:Nat) (vs arr:Array Value) :
  (vs.zipIdx.foldl (fun cs (c,j)=>cs.setIfInBounds (off+j) c) arr)=((vs.toList.zipIdx 0).foldl (fun(cs:Array Value) (x:Value×Nat)=>cs.setIfInBounds (off+x.2) x.1) arr):=by
 rw[← Array.foldl_toList];simp
def splice (cs:List AV) (off:Nat) (c:List AV):List AV:=cs.take off++c++cs.drop (off+c.length)
theorem CRel.splice {cs c:List AV} {arr vs:Array Value} (h1:CRel w Z γ cs arr) (h2:CRel w Z γ c vs) {off:Nat} (ho:off+c.length≤cs.length) :
  CRel w Z γ (Av.splice cs off c) (vs.zipIdx.foldl (fun cs (c,j)=>cs.setIfInBounds (off+j) c) arr):=by
 rw[qe5];obtain⟨g1,g2⟩:=qd2 off vs.toList 0 arr;have hvs:vs.toList.length=c.length:=by rw[qGn];exact h2.1
 have hl:(Av.splice cs off c).length=cs.length:=by simp[Av.splice];omega
 refine⟨by rw[g1,h1.1,hl],fun j hj=>?_⟩;rw[hl]at hj;have hja:j<arr.size:=by rw[h1.1];exact hj
 have hval:∀ (o:Option Value) (x:Value),o=some x→(((vs.toList.zipIdx 0).foldl (fun(cs:Array Value) (x:Value×Nat)=>cs.setIfInBounds (off+x.2) x.1) arr)[j]?=o) →
   (((vs.toList.zipIdx 0).foldl (fun(cs:Array Value) (x:Value×Nat)=>cs.setIfInBounds (off+x.2) x.1) arr)).getD j undef=x:=fun o x ho hx=>by
  rw[qF1,hx,ho];rfl
 have hg:=g2 j;by_cases hin:off≤j∧j<off+c.length
 ·rw[if_pos (by omega)]at hg;have hlt:j-off<vs.size:=by rw[h2.1];omega
  have:(Av.splice cs off c).getD j .top=c.getD (j-off) .top:=by
   unfold Av.splice;simp only[qGo,List.append_assoc];rw[qGp (by simp;omega),qGq (by simp;omega)]
   congr 2;simp;omega
  rw[this,hval _ (vs.getD (j-off) undef) ?_ hg]
  ·exact h2.2 _ (by omega)
  ·simp[Array.getD,hlt]
 ·rw[if_neg (by omega)]at hg;have:(Av.splice cs off c).getD j .top=cs.getD j .top:=by
   unfold Av.splice;simp only[qGo,List.append_assoc];by_cases hlo:j<off
   ·rw[qGq (by simp;omega),qFV,if_pos hlo]
   ·rw[qGp (by simp;omega),qGp (by simp;omega),qGr]
    congr 2;simp;omega
  rw[this,hval _ (arr.getD j undef) ?_ hg]
  ·exact h1.2 _ hj
  ·simp[Array.getD,hja]
def qmv (place:Nat→Option (Nat×Nat)) (cells:List AV):List (Nat×AV)→Option (Prop×List AV)
 | []=>some (True,cells)
 | (i,v)::rest=>match place i,qei v with
  | some (off,size),some c=>match qmv place (splice cells off c) rest with
   | some (p,r)=>some ((c.length=size∧off+size≤cells.length)∧p,r)
   | none=>none
  | _,_=>none
theorem qfW {placeA place:Nat→Option (Nat×Nat)} (hpl:∀ i x,placeA i=some x→place i=some x):∀ (parts:List (Nat×AV)) (vparts:List (Nat×Value)) (cells:List AV) (arr:Array Value) (p:Prop) (r:List AV),
  parts.length=vparts.length→(∀ (j:Nat) (a:Nat×AV) (b:Nat×Value),parts[j]?=some a→vparts[j]?=some b→a.1=b.1∧AVRel w Z γ a.2 b.2)→CRel w Z γ cells arr→qmv placeA cells parts=some (p,r)→p →
  ∃ res,Instr.fill place arr vparts=some res∧CRel w Z γ r res
 | [],[],cells,arr,p,r,_,_,hc,hf,hp=>by
  simp only[qmv,qFQ,qFR]at hf;obtain⟨_,rfl⟩:=hf;exact⟨arr,rfl,hc⟩
 | (i,a)::rest,(i',v)::vrest,cells,arr,p,r,hl,hr,hc,hf,hp=>by
  obtain⟨e1,e2⟩:=hr 0 _ _ rfl rfl;simp only at e1 e2;subst e1;simp only[qmv]at hf;cases hpi:placeA i with
  | none=>simp[hpi]at hf
  | some os =>
   obtain⟨off,size⟩:=os;cases hcv:qei a with
   | none=>simp[hpi,hcv]at hf
   | some c =>
    simp only[hpi,hcv]at hf;cases hrec:qmv placeA (splice cells off c) rest with
    | none=>simp[hrec]at hf
    | some pr =>
     obtain⟨p',r'⟩:=pr;simp only[hrec,qFQ,qFR]at hf;obtain⟨rfl,rfl⟩:=hf;obtain⟨⟨hp1,hp2⟩,hp3⟩:=hp;have hcv':=e2.notAgg hcv;have hsp:=hc.splice hcv' (off:=off) (by rw[hp1];exact hp2);obtain⟨res,h1,h2⟩:=qfW hpl rest vrest _ _ p' r' (by simpa using hl) (fun j a b ha hb=>hr (j+1) a b (by simpa using ha) (by simpa using hb)) hsp hrec hp3;refine⟨res,?_,h2⟩;have h3:v.cells.size=size:=by rw[hcv'.1,hp1]
     have h4:arr.size=cells.length:=hc.1;simp only[Instr.fill,hpl _ _ hpi];rw[if_neg (by simp[h3,h4];omega)];exact h1
 | [],_::_,_,_,_,_,hl,_,_,_,_=>by simp at hl
 | _::_,[],_,_,_,_,hl,_,_,_,_=>by simp at hl
theorem qf3 {zero:List AV} {z:Value} (hz:z.cells.toList.map av1=zero):CRel w Z γ zero z.cells:=by
 subst hz;refine⟨by simp,fun j hj=>?_⟩;have hj':j<z.cells.size:=by simpa using hj
 have:(z.cells.toList.map av1).getD j .top=av1 (z.cells.getD j undef):=by simp[List.getD,Array.getD,hj']
 rw[this];exact qnP _ _ _ _
def qkB (P:Program) (fs:List (Nat×Nat)) (i:Nat):Option (Nat×Nat) :=
 match fs[i]? with
 | some (o,ft)=>match qaA P ft with
  | some ti=>some (o,ti.size)
  | none=>none
 | none=>none
def qkC (P:Program) (e:Nat) (i:Nat):Option (Nat×Nat) :=
 match qaA P e with
 | some ie=>some (i * ie.size,ie.size)
 | none=>none
def qhg (P:Program) (t:Nat) (parts:List (Nat×AV)):Option (Prop×AV) :=
 match qaA P t with
 | some ⟨.srt fs,_,_,zero⟩=>match qmv (qkB P fs) zero parts with
  | some (p,cs)=>some ((∀ x,x∈fs→(qaA P x.2).isSome=true)∧p,.agg cs)
  | none=>none
 | some ⟨.arr _ e,_,_,zero⟩=>match qmv (qkC P e) zero parts with
  | some (p,cs)=>some ((qaA P e).isSome=true∧p,.agg cs)
  | none=>none
 | _=>none
theorem qpI {fs:List Field} {w:World} (hf:∀ f∈fs,∃ i,P.info? f.type=some i) :
  (fs.mapM fun f=>(do pure (f.offset,← sizeOf f.type):Sem (Nat×Nat))).run P w=.ok (fs.map fun f=>(f.offset,P.cellsOf f.type)) w:=by
 induction fs with
 | nil=>simp
 | cons f r ih =>
  obtain⟨i,hi⟩:=hf f (by simp);have hi':P.cellsOf f.type=i.size:=by simp[Program.cellsOf,hi]
  rw[List.mapM_cons];simp only[Sem.run_bind,qjF hi,Result.andThen_ok,Sem.run_pure,ih (fun g hg=>hf g (by simp[hg])),qGs,hi']
theorem qk1 {t:Nat} {parts:List (Nat×AV)} {vparts:Array (Nat×Value)} (hl:parts.length=vparts.size)
  (hr:∀ (j:Nat) (a:Nat×AV) (b:Nat×Value),parts[j]?=some a→vparts[j]?=some b→a.1=b.1∧AVRel w Z γ a.2 b.2) {p:Prop} {v:AV} (he:qhg P t parts=some (p,v)) (hp:p) :
  ∃ u,(Instr.build t vparts).run P w=.ok u w∧AVRel w Z γ v u:=by
 unfold qhg at he;cases hi:qaA P t with
 | none=>simp[hi]at he
 | some i =>
  obtain⟨td,size,by',zero⟩:=i;obtain⟨d,f,z,hd,htd,hf,hs,_,hz,hzz⟩:=qbA hi;simp only at htd hs hzz;cases td with
  | srt fs =>
   simp only[hi]at he;split at he
   ·rename_i p' cs hfa;simp only[qFQ,qFR]at he;obtain⟨rfl,rfl⟩:=he;obtain⟨gs,hg1,hg2⟩:=qqu hi rfl;have hmap:=qpI (P:=P) (w:=w) (fs:=gs.toList) (fun f hf=>by
     have:=hp.1 (f.offset,f.type) (by rw[← hg2];exact qGt.2 ⟨f,hf,rfl⟩);obtain⟨ti,hti⟩:=qGu.1 this;obtain⟨_,fi,_,_,_,hfi,_⟩:=qbA hti;exact⟨fi,hfi⟩)
    have hmap':(gs.mapM fun f=>(do pure (f.offset,← sizeOf f.type):Sem (Nat×Nat))).run P w=.ok ((gs.toList.map fun f=>(f.offset,P.cellsOf f.type)).toArray) w:=by
     rw[qGv,Sem.run_map,hmap];rfl
    obtain⟨res,h1,h2⟩:=qfW (placeA:=qkB P fs) (place:=fun i=>((gs.toList.map fun f=>(f.offset,P.cellsOf f.type)).toArray)[i]?) (fun i x hx=>by
      unfold qkB at hx;rw[← hg2]at hx;simp only[qGw]at hx;cases hgi:gs.toList[i]? with
      | none=>simp[hgi]at hx
      | some fl =>
       simp only[hgi,qFX]at hx;cases hti:qaA P fl.type with
       | none=>simp[hti]at hx
       | some ti =>
        simp only[hti,qFQ]at hx;subst hx;simp only[qF4,qGw,hgi,qFX,qj5 hti]) parts vparts.toList zero z.cells _ cs (by simpa using hl) (fun j a b ha hb=>hr j a b ha (by simpa using hb)) (qf3 hzz) hfa hp.2
    refine⟨.agg res,?_,.agg _ _ _ h2.1 h2.2⟩;simp only[Instr.build,Sem.run_bind,qep hf hz,Result.andThen_ok,qab hg1,hmap',h1,Sem.run_pure]
   ·cases he
  | arr n e =>
   simp only[hi]at he;split at he
   ·rename_i p' cs hfa;simp only[qFQ,qFR]at he;obtain⟨rfl,rfl⟩:=he;have hu:=qht hi rfl;cases hie:qaA P e with
    | none=>simp[hie]at hp
    | some ie =>
     obtain⟨res,h1,h2⟩:=qfW (placeA:=qkC P e) (place:=fun i=>some (i * ie.size,ie.size)) (fun i x hx=>by
       unfold qkC at hx;simp only[hie,qFQ]at hx;rw[hx]) parts vparts.toList zero z.cells _ cs (by simpa using hl) (fun j a b ha hb=>hr j a b ha (by simpa using hb)) (qf3 hzz) hfa hp.2
     refine⟨.agg res,?_,.agg _ _ _ h2.1 h2.2⟩;simp only[Instr.build,Sem.run_bind,qep hf hz,Result.andThen_ok,qab hu,qaH hie,h1,Sem.run_pure]
   ·cases he
  | _=>simp[hi]at he
end
end Go.Av
end
