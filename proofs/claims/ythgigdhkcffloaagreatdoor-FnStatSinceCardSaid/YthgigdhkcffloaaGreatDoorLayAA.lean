/- Lemmas for the proof, no statement of the seat; no conditions. -/
import Derived.Orders
import Derived.Still
import Derived.Tactics
import Derived.Below
import Derived.Laws.IdiomCopy
import Derived.Laws.Cells
import Derived.Laws.Strings
import Derived.Laws.Shifts
import Derived.Laws.BytesString
import Derived.Laws.ResultCell
import Derived.Laws.Strings2
import Derived.Laws.StructEq
import Derived.ChangeKeysEq
set_option linter.unusedSimpArgs false
set_option linter.unusedVariables false
set_option linter.unnecessarySimpa false
set_option maxRecDepth 100000
section
namespace Go.Av
open Go.RowKit
inductive AV where
 | top
 | int (k:IntKind) (n:Int)
 | bool (b:Bool)
 | str (s:List UInt8)
 | nilp
 | nils
 | nili
 | ifc
 | anyb
 | any1
 | agg (cs:List AV)
 | tup (vs:List AV)
 | ptr (id e off:Nat)
 | sl (id e len:Nat)
 | lst (sz:Nat) (els:List (List AV))
 | elm (cs:List AV)
 | fn (f:Nat) (cap:List AV)
 | bsl (id e off esz n:Nat)
 | slc (id e len cap:Nat)
deriving Inhabited
structure Ob where
 sz:Nat
 els:List (List AV)
abbrev Tm:=Nat→AV
abbrev Hp:=Nat→Option Ob
def upd {α:Type} (f:Nat→α) (d:Nat) (v:α):Nat→α:=fun i=>if i=d then v else f i
theorem qaj {α:Type} (f:Nat→α) (d:Nat) (v:α):upd f d v d=v:=if_pos rfl
theorem qam {α:Type} (f:Nat→α) {d i:Nat} (v:α) (h:i≠d):upd f d v i=f i:=if_neg h
theorem upd_comm {α:Type} (f:Nat→α) {d e:Nat} (v u:α) (h:d≠e):upd (upd f d v) e u=upd (upd f e u) d v:=by
 grind[upd]
structure Rg where
 A:Addr
 n:Nat
 sz:Nat
def _root_.Go.Addr.at (A:Addr) (k:Nat):Addr:=⟨A.block,A.off+k,none⟩
abbrev Gm:=Nat→Option Rg
def noG:Gm:=fun _=>none
inductive AVRel (w:World) (Z:Addr→Prop):Gm→AV→Value→Prop
 | top (γ:Gm) (v:Value):AVRel w Z γ .top v
 | int (γ:Gm) (k:IntKind) (n:Int):AVRel w Z γ (.int k n) (.int k n)
 | bool (γ:Gm) (b:Bool):AVRel w Z γ (.bool b) (.bool b)
 | str (γ:Gm) (s:List UInt8):AVRel w Z γ (.str s) (.string ⟨s.toArray⟩)
 | nilp (γ:Gm):AVRel w Z γ .nilp (.pointer none)
 | nils (γ:Gm):AVRel w Z γ .nils (.slice none 0 0)
 | nili (γ:Gm):AVRel w Z γ .nili .nilIface
 | ifc (γ:Gm) (t:TypeId) (v:Value):AVRel w Z γ .ifc (.iface t v)
 | anyb (γ:Gm) (b:Bool):AVRel w Z γ .anyb (.bool b)
 | any1 (γ:Gm) (v:Value) (h:v.oneCell'=true):AVRel w Z γ .any1 v
 | agg (γ:Gm) (cs:List AV) (vs:Array Value) (hs:vs.size=cs.length)
   (hr:∀ j,j<cs.length→AVRel w Z γ (cs.getD j .top) (vs.getD j undef)):AVRel w Z γ (.agg cs) (.agg vs)
 | tup (γ:Gm) (cs:List AV) (vs:Array Value) (hs:vs.size=cs.length)
   (hr:∀ j,j<cs.length→AVRel w Z γ (cs.getD j .top) (vs.getD j undef)):AVRel w Z γ (.tup cs) (.tuple vs)
 | ptr (γ:Gm) (id e off:Nat) (r:Rg) (hg:γ id=some r):AVRel w Z γ (.ptr id e off) (.pointer (some (r.A.at (e * r.sz+off))))
 | sl (γ:Gm) (id e len cap:Nat) (r:Rg) (hg:γ id=some r) (hl:len≤cap) (hc:(e+cap) * r.sz≤r.n) :
   AVRel w Z γ (.sl id e len) (.slice (some (r.A.at (e * r.sz))) len cap)
 | sl0 (γ:Gm) (id e:Nat) (a:Option Addr):AVRel w Z γ (.sl id e 0) (.slice a 0 0)
 | lst (γ:Gm) (sz:Nat) (els:List (List AV)) (a:Option Addr) (cap:Nat) (vf:Nat→Nat→Value) (hl:els.length≤cap)
   (hc:els≠[]→∃ A,a=some A∧(∀ i j,i<els.length→j<sz→Z (A.at (i * sz+j)))∧A.spot=none∧∀ i j,i<els.length→j<sz→w.cell? (A.at (i * sz+j))=some (vf i j))
   (hs:∀ i,i<els.length→(els.getD i []).length=sz)
   (hr:∀ i j,i<els.length→j<sz→AVRel w Z noG ((els.getD i []).getD j .top) (vf i j)):AVRel w Z γ (.lst sz els) (.slice a els.length cap)
 | elm (γ:Gm) (cs:List AV) (A:Addr) (vf:Nat→Value) (hA:A.spot=none) (hz:∀ j,j<cs.length→Z (A.at j))
   (hc:∀ j,j<cs.length→w.cell? (A.at j)=some (vf j))
   (hr:∀ j,j<cs.length→AVRel w Z noG (cs.getD j .top) (vf j)):AVRel w Z γ (.elm cs) (.pointer (some A))
 | bsl (γ:Gm) (id e off esz n:Nat) (r:Rg) (hg:γ id=some r):AVRel w Z γ (.bsl id e off esz n) (.slice (some (r.A.at (e * r.sz+off))) n n)
 | slc (γ:Gm) (id e len cap:Nat) (r:Rg) (hg:γ id=some r) (hl:len≤cap) (hc:(e+cap) * r.sz≤r.n) :
   AVRel w Z γ (.slc id e len cap) (.slice (some (r.A.at (e * r.sz))) len cap)
 | slc0 (γ:Gm) (id e:Nat) (a:Option Addr):AVRel w Z γ (.slc id e 0 0) (.slice a 0 0)
 | fn (γ:Gm) (f:Nat) (cs:List AV) (vs:Array Value) (hs:vs.size=cs.length)
   (hr:∀ j,j<cs.length→AVRel w Z γ (cs.getD j .top) (vs.getD j undef)):AVRel w Z γ (.fn f cs) (.func (.func f) #[] vs)
theorem AVRel.world {w w':World} {Z Z':Addr→Prop} (hZ:∀ b,Z b→Z' b) (hw:∀ p:Addr,Z p→w'.cell? p=w.cell? p)
  {γ:Gm} {av:AV} {v:Value} (h:AVRel w Z γ av v):AVRel w' Z' γ av v:=by
 induction h with
 | top=>simp[top]
 | int=>simp[int]
 | bool=>simp[bool]
 | str=>simp[str]
 | nilp=>simp[nilp]
 | nils=>simp[nils]
 | nili=>simp[nili]
 | ifc=>simp[ifc]
 | anyb=>simp[anyb]
 | any1 γ v hv=>(try intros);exact .any1 _ _ hv
 | agg γ cs vs hs _ ih=>grind[agg]
 | tup γ cs vs hs _ ih=>grind[tup]
 | ptr γ id e off r hg=>grind[ptr]
 | sl γ id e len cap r hg hl hc=>grind[sl]
 | bsl γ id e off esz n r hg=>grind[bsl]
 | sl0=>simp[sl0]
 | slc γ id e len cap r hg hl hc=>grind[slc]
 | slc0=>simp[slc0]
 | lst γ sz els a cap vf hl hc hs _ ih =>
  refine .lst _ _ _ _ _ vf hl (fun hn=>?_) hs ih
  grind
 | elm γ cs A vf hA hz hc _ ih=>exact .elm _ _ _ vf hA (fun j hj=>hZ _ (hz j hj)) (fun j hj=>(hw (A.at _) (hz j hj)).trans (hc j hj)) ih
 | fn γ f cs vs hs _ ih=>grind[fn]
inductive Plc where
 | whole (id:Nat)
 | sub (id e off n:Nat)
mutual
def ren (ρ:Nat→Option Plc):AV→AV
 | .ptr c e o=>match ρ c with
  | some (.whole id)=>.ptr id e o
  | some (.sub id e0 o0 _)=>if e=0 then .ptr id e0 (o0+o) else .top
  | none=>.top
 | .sl c e len=>match ρ c with
  | some (.whole id)=>.sl id e len
  | _=>.top
 | .slc c e len cap=>match ρ c with
  | some (.whole id)=>.slc id e len cap
  | _=>.top
 | .bsl c e o esz n=>match ρ c with
  | some (.whole id)=>.bsl id e o esz n
  | some (.sub id e0 o0 _)=>if e=0 then .bsl id e0 (o0+o) esz n else .top
  | none=>.top
 | .agg cs=>.agg (renL ρ cs)
 | .tup vs=>.tup (renL ρ vs)
 | .fn f cs=>.fn f (renL ρ cs)
 | .top=>.top
 | .int k n=>.int k n
 | .bool b=>.bool b
 | .str s=>.str s
 | .nilp=>.nilp
 | .nils=>.nils
 | .nili=>.nili
 | .ifc=>.ifc
 | .anyb=>.anyb
 | .any1=>.any1
 | .lst sz els=>.lst sz els
 | .elm cs=>.elm cs
def renL (ρ:Nat→Option Plc):List AV→List AV
 | []=>[]
 | a::r=>ren ρ a::renL ρ r
end
theorem qbi (ρ:Nat→Option Plc):∀ l,(renL ρ l).length=l.length
 | []=>rfl
 | _::r=>by simp[renL,qbi ρ r]
theorem renL_getD (ρ:Nat→Option Plc):∀ (l:List AV) (j:Nat),(renL ρ l).getD j .top=ren ρ (l.getD j .top)
 | [],j=>by rfl
 | a::r,0=>by rfl
 | a::r,j+1=>by simpa [renL]using renL_getD ρ r j
def PlcOk (γ γ':Gm) (ρ:Nat→Option Plc):Prop :=
 ∀ c,match ρ c with
  | some (.whole id)=>∀ r,γ c=some r→γ' id=some r
  | some (.sub id e0 o0 _)=>∀ r,γ c=some r→∃ r',γ' id=some r'∧r.A=r'.A.at (e0 * r'.sz+o0)
  | none=>True
theorem qai (A:Addr) (i j:Nat):(A.at i).at j=A.at (i+j):=by simp[Addr.at,Nat.add_assoc]
theorem AVRel.ren {w:World} {Z:Addr→Prop} {γ γ':Gm} {ρ:Nat→Option Plc} (hρ:PlcOk γ γ' ρ) {av:AV} {v:Value} (h:AVRel w Z γ av v) :
  AVRel w Z γ' (ren ρ av) v:=by
 revert hρ
 generalize hG:γ=G at h
 intro hρ
 revert hG hρ
 induction h with
 | top=>simp[Av.ren,top]
 | int=>simp[Av.ren,int]
 | bool=>simp[Av.ren,bool]
 | str=>simp[Av.ren,str]
 | nilp=>simp[Av.ren,nilp]
 | nils=>simp[Av.ren,nils]
 | nili=>simp[Av.ren,nili]
 | ifc=>simp[Av.ren,ifc]
 | anyb=>simp[Av.ren,anyb]
 | any1 γ v hv=>(try intros);simp only[Av.ren];exact .any1 _ _ hv
 | agg γ cs vs hs _ ih =>
  grind[Av.ren,agg,qbi,renL_getD]
 | tup γ cs vs hs _ ih =>
  grind[Av.ren,tup,qbi,renL_getD]
 | fn γ f cs vs hs _ ih =>
  grind[Av.ren,fn,qbi,renL_getD]
 | ptr γ id e off r hg =>
  intro hG hρ
  simp only[Av.ren]
  have:=hρ id
  revert this
  cases hc:ρ id with
  | none=>simp[top]
  | some p =>
   cases p with
   | whole id'=>grind[ptr]
   | sub id' e0 o0 n0 =>
    intro h
    obtain⟨r',hr',hA⟩:=h r hg
    by_cases he:e=0
    ·subst he
     grind[qai,ptr]
    grind[top]
 | bsl γ id e off esz n r hg =>
  intro hG hρ
  simp only[Av.ren]
  have:=hρ id
  revert this
  cases hc:ρ id with
  | none=>simp[top]
  | some p =>
   cases p with
   | whole id'=>grind[bsl]
   | sub id' e0 o0 n0 =>
    intro h
    obtain⟨r',hr',hA⟩:=h r hg
    by_cases he:e=0
    ·subst he
     grind[qai,bsl]
    grind[top]
 | sl γ id e len cap r hg hl hc =>
  intro hG hρ
  simp only[Av.ren]
  have:=hρ id
  grind[top,sl]
 | sl0 γ id e a =>
  grind[Av.ren,top,sl0]
 | slc γ id e len cap r hg hl hc =>
  intro hG hρ
  simp only[Av.ren]
  have:=hρ id
  grind[top,slc]
 | slc0 γ id e a =>
  grind[Av.ren,top,slc0]
 | lst γ sz els a cap vf hl hc hs hr _=>intros;exact .lst _ _ _ _ _ vf hl hc hs hr
 | elm γ cs A vf hA hz hc hr _=>simp_all[Av.ren,elm]
theorem AVRel.gmono {w:World} {Z:Addr→Prop} {γ γ':Gm} (hg':∀ id r,γ id=some r→γ' id=some r) {av:AV} {v:Value} (h:AVRel w Z γ av v) :
  AVRel w Z γ' av v:=by
 revert hg'
 generalize hG:γ=G at h
 intro hg'
 revert hG hg'
 induction h with
 | top=>simp[top]
 | int=>simp[int]
 | bool=>simp[bool]
 | str=>simp[str]
 | nilp=>simp[nilp]
 | nils=>simp[nils]
 | nili=>simp[nili]
 | ifc=>simp[ifc]
 | anyb=>simp[anyb]
 | any1 γ v hv=>(try intros);exact .any1 _ _ hv
 | agg γ cs vs hs _ ih=>grind[agg]
 | tup γ cs vs hs _ ih=>grind[tup]
 | fn γ f cs vs hs _ ih=>grind[fn]
 | ptr γ id e off r hg=>grind[ptr]
 | bsl γ id e off esz n r hg=>grind[bsl]
 | sl γ id e len cap r hg hl hc=>grind[sl]
 | sl0=>simp[sl0]
 | slc γ id e len cap r hg hl hc=>grind[slc]
 | slc0=>simp[slc0]
 | lst γ sz els a cap vf hl hc hs hr _=>intros;exact .lst _ _ _ _ _ vf hl hc hs hr
 | elm γ cs A vf hA hz hc hr _=>simp_all[elm]
theorem AVRel.ofClosed {w:World} {Z:Addr→Prop} {γ:Gm} {av:AV} {v:Value} (h:AVRel w Z noG av v):AVRel w Z γ av v :=
 h.gmono fun _ _ e=>by grind[noG]
def Rg.has (r:Rg) (p:Addr):Prop:=p.block=r.A.block∧r.A.off≤p.off∧p.off<r.A.off+r.n∧p.spot=none
def Rg.apart (r s:Rg):Prop:=r.n=0∨s.n=0∨r.A.block≠s.A.block∨r.A.off+r.n≤s.A.off∨s.A.off+s.n≤r.A.off
theorem Rg.apart_comm {r s:Rg} (h:r.apart s):s.apart r:=by
 grind[Rg.apart]
theorem Rg.apart_has {r s:Rg} (h:r.apart s) {p:Addr} (hp:r.has p):¬ s.has p:=by
 grind[Rg.apart,Rg.has]
theorem Rg.has_at {r:Rg} {k:Nat} (h:k<r.n):r.has (r.A.at k):=by grind[Rg.has,Addr.at]
structure ORel (w:World) (Z:Addr→Prop) (γ:Gm) (o:Ob) (r:Rg):Prop where
 spot:r.A.spot=none
 sz:r.sz=o.sz
 fit:o.els.length * o.sz≤r.n
 len:∀ e,e<o.els.length→(o.els.getD e []).length=o.sz
 live:∀ k,k<r.n→(∃ v,w.cell? (r.A.at k)=some v)∧w.frozen? (r.A.at k)=false
 cell:∀ e j,e<o.els.length→j<o.sz→∃ v,w.cell? (r.A.at (e * o.sz+j))=some v∧AVRel w Z γ ((o.els.getD e []).getD j .top) v
 pln:1<o.sz→0<r.n→∀ k,w.frozen? ⟨r.A.block,k,none⟩=false
@[irreducible] def gtab:Nat→Option (List AV):=fun g=>none
def GlR (w:World) (Z:Addr→Prop):Prop:=∀ g cs,gtab g=some cs→AVRel w Z noG (.elm cs) (.pointer (some ⟨g,0,none⟩))∧Z ⟨g,cs.length,none⟩∧w.cell? ⟨g,cs.length,none⟩=none
theorem GlR.world {w w':World} {Z Z':Addr→Prop} (h:GlR w Z) (hZ:∀ b,Z b→Z' b) (hw:∀ p:Addr,Z p→w'.cell? p=w.cell? p):GlR w' Z':=fun g cs hg =>
 ⟨(h g cs hg).1.world hZ hw,hZ _ (h g cs hg).2.1,(hw _ (h g cs hg).2.1).trans (h g cs hg).2.2⟩
structure HRel (w:World) (Z:Addr→Prop) (γ:Gm) (h:Hp):Prop where
 obj:∀ id o,h id=some o→∃ r,γ id=some r∧ORel w Z γ o r
 dis:∀ id id' o o' r r',id≠id'→h id=some o→h id'=some o'→γ id=some r→γ id'=some r'→r.apart r'
 zon:∀ id o r,h id=some o→γ id=some r→∀ p,r.has p→¬ Z p
 zlt:∀ p,Z p→p.block<w.heap.size
 gl:GlR w Z
def Foot (γ:Gm) (h:Hp) (p:Addr):Prop:=∃ id o r,h id=some o∧γ id=some r∧r.has p
structure Fr (F:Addr→Prop) (w w':World):Prop where
 os:w'.os=w.os
 tape:w'.tape=w.tape
 output:w'.output=w.output
 size:w.heap.size≤w'.heap.size
 blk:∀ b,b<w.heap.size→w'.heap[b]?=w.heap[b]?∨∃ c c' ty fz,w.heap[b]?=some (.cells c ty fz)∧w'.heap[b]?=some (.cells c' ty fz)∧c'.size=c.size∧∀ o,¬ F ⟨b,o,none⟩→c'[o]?=c[o]?
theorem Fr.refl (F:Addr→Prop) (w:World):Fr F w w:=⟨rfl,rfl,rfl,Nat.le_refl _,fun _ _=>.inl rfl⟩
theorem Fr.cell {F:Addr→Prop} {w w':World} (h:Fr F w w') {p:Addr} (hb:p.block<w.heap.size) (hp:¬ F ⟨p.block,p.off,none⟩):w'.cell? p=w.cell? p:=by
 rcases h.blk p.block hb with e | ⟨c,c',ty,fz,h1,h2,_,h4⟩
 all_goals grind[World.cell?]
theorem Fr.frozen {F:Addr→Prop} {w w':World} (h:Fr F w w') {p:Addr} (hb:p.block<w.heap.size):w'.frozen? p=w.frozen? p:=by
 rcases h.blk p.block hb with e | ⟨c,c',ty,fz,h1,h2,_,h4⟩
 all_goals grind[World.frozen?]
theorem Fr.trans {F G H:Addr→Prop} {a b c:World} (h:Fr F a b) (k:Fr G b c) (hF:∀ i o,F ⟨i,o,none⟩→H ⟨i,o,none⟩) (hG:∀ i o,i<a.heap.size→G ⟨i,o,none⟩→H ⟨i,o,none⟩):Fr H a c:=by
 refine⟨k.os.trans h.os,k.tape.trans h.tape,k.output.trans h.output,Nat.le_trans h.size k.size,fun i hi=>?_⟩
 rcases h.blk i hi with e | ⟨c1,c2,ty,fz,h1,h2,h3,h4⟩
 ·rcases k.blk i (Nat.lt_of_lt_of_le hi h.size)with e' | ⟨d1,d2,ty',fz',g1,g2,g3,g4⟩
  all_goals grind
 ·rcases k.blk i (Nat.lt_of_lt_of_le hi h.size)with e' | ⟨d1,d2,ty',fz',g1,g2,g3,g4⟩
  all_goals grind
theorem Fr.mono {F G:Addr→Prop} {a b:World} (h:Fr F a b) (hF:∀ i o,F ⟨i,o,none⟩→G ⟨i,o,none⟩):Fr G a b :=
 ⟨h.os,h.tape,h.output,h.size,fun i hi=>(h.blk i hi).imp id fun⟨c,c',ty,fz,h1,h2,h3,h4⟩=>⟨c,c',ty,fz,h1,h2,h3,fun o ho=>h4 o fun hf=>ho (hF _ _ hf)⟩⟩
theorem Fr.below {a b:World} (h:Fr (fun _=>False) a b):Below a.heap.size a b:=by
 refine⟨h.os,h.tape,h.output,h.size,fun i hi=>?_⟩
 rcases h.blk i hi with e | ⟨c,c',ty,fz,h1,h2,h3,h4⟩
 ·omega
 ·rw[h1,h2]
  congr 2
  apply Array.ext_getElem?
  grind
end Go.Av

end
section
namespace Go.Av
open Go.RowKit
inductive TD where
 | int (k:IntKind)
 | bool
 | str
 | slc (e:Nat)
 | ptr (e:Nat)
 | ifc
 | arr (n e:Nat)
 | srt (fs:List (Nat×Nat))
 | oth
deriving Inhabited
structure TI where
 td:TD
 size:Nat
 bytes:Nat
 zero:List AV
def tdOf:TypeDesc→TD
 | .int k=>.int k
 | .bool=>.bool
 | .string=>.str
 | .slice e=>.slc e
 | .pointer e=>.ptr e
 | .interface _=>.ifc
 | .array n e=>.arr n e
 | .struct fs=>.srt (fs.toList.map fun f=>(f.offset,f.type))
 | _=>.oth
def av1:Value→AV
 | .int k n=>.int k n
 | .bool b=>.bool b
 | .string s=>.str s.data.toList
 | .pointer none=>.nilp
 | .slice none 0 0=>.nils
 | .nilIface=>.nili
 | _=>.top
def avOf:Value→AV
 | .agg cs=>.agg (cs.toList.map av1)
 | v=>av1 v
def ttOf (P:Program) (t:Nat):Option TI :=
 match P.underlying t,P.info? t with
 | some d,some i=>match i.zero with
  | some z=>some ⟨tdOf d,i.size,i.bytes,z.cells.toList.map av1⟩
  | none=>none
 | _,_=>none
def TD.agg:TD→Bool
 | .srt _=>true
 | .arr _ _=>true
 | _=>false
theorem qbp {P:Program} {t:Nat} {i:TI} (h:ttOf P t=some i) :
  ∃ d f z,P.underlying t=some d∧tdOf d=i.td∧P.info? t=some f∧f.size=i.size∧f.bytes=i.bytes∧f.zero=some z∧z.cells.toList.map av1=i.zero:=by
 grind[ttOf]
theorem av1_rel (w:World) (Z:Addr→Prop) (γ:Gm) (v:Value):AVRel w Z γ (av1 v) v:=by
 unfold av1
 split
 ·exact .int _ _ _
 ·exact .bool _ _
 ·exact .str _ _
 ·exact .nilp _
 ·exact .nils _
 ·exact .nili _
 ·exact .top _ _
theorem avOf_rel (w:World) (Z:Addr→Prop) (γ:Gm) (v:Value):AVRel w Z γ (avOf v) v:=by
 unfold avOf
 split
 ·refine .agg _ _ _ (by simp) fun j hj=>?_
  rename_i cs
  have hj':j<cs.size:=by grind
  have:(cs.toList.map av1).getD j .top=av1 (cs.getD j undef):=by
   simp_all
  grind[av1_rel]
 simp[av1_rel]
def opd (t:Tm):Operand→AV
 | .tmp i=>t i
 | .const v=>avOf v
 | .func f=>.fn f []
 | .global g=>match gtab g with
  | some cs=>.elm cs
  | none=>.top
def cellsO:AV→Option (List AV)
 | .agg cs=>some cs
 | .top=>none
 | .tup _=>none
 | v=>some [v]
def CRel (w:World) (Z:Addr→Prop) (γ:Gm) (cs:List AV) (vs:Array Value):Prop :=
 vs.size=cs.length∧∀ j,j<cs.length→AVRel w Z γ (cs.getD j .top) (vs.getD j undef)
theorem AVRel.notAgg {w:World} {Z:Addr→Prop} {γ:Gm} {av:AV} {v:Value} {cs:List AV} (h:AVRel w Z γ av v) (hc:cellsO av=some cs):CRel w Z γ cs v.cells:=by
 have one:∀ (u:Value),v=u→u.cells=#[u]→cs=[av]→CRel w Z γ cs v.cells:=by
  intro u hu hcc hcs
  subst hu hcs
  rw[hcc]
  exact⟨rfl,fun j hj=>by
   simp_all⟩
 cases h with
 | agg γ cs' vs hs hr=>simp[cellsO]at hc;subst hc;exact⟨hs,hr⟩
 | top=>grind[cellsO]
 | tup=>grind[cellsO]
 | any1 _ _ hv=>simp[cellsO]at hc;exact one _ rfl (by cases v <;> first | rfl | simp[Value.oneCell']at hv) hc.symm
 | _=>simp[cellsO]at hc;exact one _ rfl rfl hc.symm
def bitsOp (op:BinOp) (k:IntKind) (x y:Int):Option Int :=
 let a:=BitVec.ofInt k.bits x
 let b:=BitVec.ofInt k.bits y
 match op with
 | .and=>some (k.wrap (a &&& b).toNat)
 | .or=>some (k.wrap (a ||| b).toNat)
 | .xor=>some (k.wrap (a ^^^ b).toNat)
 | .andNot=>some (k.wrap (a &&& ~~~b).toNat)
 | _=>none
def evInt (op:BinOp) (k k':IntKind) (a b:Int):Option (Prop×AV) :=
 match op with
 | .shl=>some (0≤b,.int k (k.wrap (a * 2 ^ (min b.toNat k.bits))))
 | .shr=>some (0≤b,.int k (a.fdiv (2 ^ (min b.toNat k.bits))))
 | .add=>some (k=k',.int k (k.wrap (a+b)))
 | .sub=>some (k=k',.int k (k.wrap (a-b)))
 | .mul=>some (k=k',.int k (k.wrap (a * b)))
 | .quo=>some (k=k'∧b≠0,.int k (k.wrap (a.tdiv b)))
 | .rem=>some (k=k'∧b≠0,.int k (a.tmod b))
 | .eql=>some (k=k',.bool (a == b))
 | .neq=>some (k=k',.bool (a != b))
 | .lss=>some (k=k',.bool (decide (a<b)))
 | .leq=>some (k=k',.bool (decide (a≤b)))
 | .gtr=>some (k=k',.bool (decide (a > b)))
 | .geq=>some (k=k',.bool (decide (a ≥ b)))
 | op=>match bitsOp op k a b with | some n=>some (k=k',.int k n) | none=>none
theorem evInt_sound {P:Program} {w:World} {Z:Addr→Prop} {γ:Gm} {op:BinOp} {k k':IntKind} {a b:Int} {p:Prop} {v:AV} (xt:TypeId)
  (h:evInt op k k' a b=some (p,v)) (hp:p):∃ u,(binOp op xt (.int k a) (.int k' b)).run P w=.ok u w∧AVRel w Z γ v u:=by
 cases op <;> simp only[evInt,bitsOp,Option.some.injEq,Prod.mk.injEq]at h <;> obtain⟨rfl,rfl⟩:=h
 case shl=>exact⟨_,by(simp[binOp,Op.shift];omega),.int _ _ _⟩
 case shr=>exact⟨_,by(simp[binOp,Op.shift];omega),.int _ _ _⟩
 case quo=>obtain⟨rfl,hb⟩:=hp;exact⟨_,by simp_all[binOp,Op.intDiv],.int _ _ _⟩
 case rem=>obtain⟨rfl,hb⟩:=hp;exact⟨_,by simp_all[binOp,Op.intDiv],.int _ _ _⟩
 all_goals
  subst hp
  first
   | exact⟨_,by simp[binOp,Op.intArith,Op.intCmp,Op.intBits],.int _ _ _⟩
   | exact⟨_,by simp[binOp,Op.intCmp],.bool _ _⟩
def evStr (op:BinOp) (a b:List UInt8):Option (Prop×AV) :=
 match op with
 | .add=>some (((a.length+b.length:Nat):Int)≤9223372036854775807,.str (a++b))
 | .eql=>some (True,.bool (a == b))
 | .neq=>some (True,.bool (!(a == b)))
 | .lss=>some (True,.bool (Op.bytesLess a b))
 | .leq=>some (True,.bool (Op.bytesLess a b || a == b))
 | .gtr=>some (True,.bool !(Op.bytesLess a b || a == b))
 | .geq=>some (True,.bool (!Op.bytesLess a b))
 | _=>none
theorem ba_toList (s:List UInt8):(ByteArray.mk s.toArray).toList=s:=by
 simp
theorem evStr_sound {P:Program} {w:World} {Z:Addr→Prop} {γ:Gm} {op:BinOp} {a b:List UInt8} {p:Prop} {v:AV} (xt:TypeId)
  (h:evStr op a b=some (p,v)) (hp:p):∃ u,(binOp op xt (.string ⟨a.toArray⟩) (.string ⟨b.toArray⟩)).run P w=.ok u w∧AVRel w Z γ v u:=by
 cases op <;> simp only[evStr,Option.some.injEq,Prod.mk.injEq,reduceCtorEq]at h <;> obtain⟨rfl,rfl⟩:=h
 case add =>
  refine⟨_,?_,.str _ _⟩
  have hm:IntKind.i64.max=9223372036854775807:=rfl
  have:¬ (((⟨a.toArray⟩:ByteArray).size+(⟨b.toArray⟩:ByteArray).size:Nat):Int) > IntKind.i64.max:=by
   grind[ByteArray.size]
  simp only[binOp,Op.stringOp,if_neg this,Sem.run_pure]
  rfl
 all_goals exact⟨_,by simp[binOp,Op.stringOp],.bool _ _⟩
end Go.Av

end
section
namespace Go.Av
open Go.RowKit
theorem at_add (A:Addr) (k j:Nat):(A.at k).add j=A.at (k+j):=by
 simp[Addr.add,Addr.at,Nat.add_assoc]
theorem at_zero (A:Addr) (h:A.spot=none):A.at 0=A:=by cases A;grind[Addr.at]
theorem add_of_spot (A:Addr) (h:A.spot=none) (j:Nat):A.add j=A.at j:=by
 unfold Addr.add Addr.at;split
 ·subst_vars;cases A;grind
 rfl
theorem at_block (A:Addr) (k:Nat):(A.at k).block=A.block:=rfl
section
variable {P:Program} {w:World} {Z:Addr→Prop} {γ:Gm} {h:Hp}
theorem qaa {t:Nat} {d:TypeDesc} (hd:P.underlying t=some d):(underlying t).run P w=.ok d w:=by simp_all[underlying]
theorem run_typeInfo {t:Nat} {f:TypeInfo} (hf:P.info? t=some f):(typeInfo t).run P w=.ok f w:=by simp_all[typeInfo]
theorem run_sizeOf {t:Nat} {f:TypeInfo} (hf:P.info? t=some f):(sizeOf t).run P w=.ok f.size w:=by simp[sizeOf,run_typeInfo hf]
theorem run_zero {t:Nat} {f:TypeInfo} {z:Value} (hf:P.info? t=some f) (hz:f.zero=some z):(zeroValue t).run P w=.ok z w:=by simp_all[zeroValue,run_typeInfo]
theorem run_isAgg {t:Nat} {i:TI} (hi:ttOf P t=some i):(isAgg t).run P w=.ok i.td.agg w:=by
 obtain⟨d,f,z,hd,htd,_⟩:=qbp hi
 rw[← htd]
 simp only[isAgg,Sem.run_bind,qaa hd,Result.andThen_ok]
 cases d <;> rfl
theorem qas {t:Nat} {i:TI} (hi:ttOf P t=some i):(sizeOf t).run P w=.ok i.size w:=by
 grind[qbp,run_sizeOf]
theorem qau {t:Nat} {i:TI} {e:Nat} (hi:ttOf P t=some i) (he:i.td=.slc e):P.underlying t=some (.slice e):=by
 obtain⟨d,f,z,hd,htd,_⟩:=qbp hi
 rw[he]at htd;cases d <;> simp[tdOf]at htd;rw[hd,htd]
theorem tt_arr {t:Nat} {i:TI} {n e:Nat} (hi:ttOf P t=some i) (he:i.td=.arr n e):P.underlying t=some (.array n e):=by
 obtain⟨d,f,z,hd,htd,_⟩:=qbp hi
 rw[he]at htd;cases d <;> simp[tdOf]at htd;rw[hd,htd.1,htd.2]
theorem tt_int {t:Nat} {i:TI} {k:IntKind} (hi:ttOf P t=some i) (he:i.td=.int k):P.underlying t=some (.int k):=by
 obtain⟨d,f,z,hd,htd,_⟩:=qbp hi
 rw[he]at htd;cases d <;> simp[tdOf]at htd;rw[hd,htd]
theorem tt_str {t:Nat} {i:TI} (hi:ttOf P t=some i) (he:i.td=.str):P.underlying t=some .string:=by
 obtain⟨d,f,z,hd,htd,_⟩:=qbp hi
 rw[he]at htd;cases d <;> simp[tdOf]at htd;exact hd
theorem tt_bool {t:Nat} {i:TI} (hi:ttOf P t=some i) (he:i.td=.bool):P.underlying t=some .bool:=by
 obtain⟨d,f,z,hd,htd,_⟩:=qbp hi
 rw[he]at htd;cases d <;> simp[tdOf]at htd;exact hd
theorem tt_srt {t:Nat} {i:TI} {fs:List (Nat×Nat)} (hi:ttOf P t=some i) (he:i.td=.srt fs) :
  ∃ gs,P.underlying t=some (.struct gs)∧gs.toList.map (fun f=>(f.offset,f.type))=fs:=by
 obtain⟨d,f,z,hd,htd,_⟩:=qbp hi
 rw[he]at htd;cases d <;> simp[tdOf]at htd;exact⟨_,hd,by simpa using htd⟩
theorem load_cells {A:Addr} {cs:List AV} (k n:Nat) (hn:k+n≤cs.length)
  (hc:∀ j,j<cs.length→∃ v,w.cell? (A.at j)=some v∧AVRel w Z γ (cs.getD j .top) v) :
  ∃ vs:Array Value,(loadCells (A.at k) n).run P w=.ok vs w∧CRel w Z γ ((cs.drop k).take n) vs:=by
 have hex:∀ j,∃ v,j<cs.length→w.cell? (A.at j)=some v∧AVRel w Z γ (cs.getD j .top) v:=fun j=>by
  by_cases hj:j<cs.length
  ·grind
  ·exact⟨undef,fun h=>absurd h hj⟩
 let f:=fun j=>Classical.choose (hex j)
 have hf:∀ j,j<cs.length→w.cell? (A.at j)=some (f j)∧AVRel w Z γ (cs.getD j .top) (f j):=fun j hj=>Classical.choose_spec (hex j) hj
 refine⟨((List.range n).map fun j=>f (k+j)).toArray,?_,?_⟩
 ·grind[run_loadCells,at_add]
 ·refine⟨by grind,fun j hj=>?_⟩
  simp only[List.length_take,List.length_drop]at hj
  have h1:((cs.drop k).take n).getD j .top=cs.getD (k+j) .top:=by
   grind
  have h2:(((List.range n).map fun j=>f (k+j)).toArray).getD j undef=f (k+j):=by
   (simp[Array.getD];omega)
  grind
def evLoad (P:Program) (h:Hp) (ty:Nat):AV→Option (Prop×AV)
 | .ptr id e off=>match h id,ttOf P ty with
  | some o,some i=>if i.td.agg then some (e<o.els.length∧off+i.size≤o.sz,.agg (((o.els.getD e []).drop off).take i.size))
   else some (e<o.els.length∧off<o.sz,(o.els.getD e []).getD off .top)
  | _,_=>none
 | .elm cs=>match ttOf P ty with
  | some i=>if i.td.agg then some (i.size≤cs.length,.agg (cs.take i.size)) else some (0<cs.length,cs.getD 0 .top)
  | none=>none
 | _=>none
theorem loadAt_of {t:Nat} {i:TI} (hi:ttOf P t=some i) {A:Addr} {cs:List AV} (k:Nat) 
  (hc:∀ j,j<cs.length→∃ v,w.cell? (A.at j)=some v∧AVRel w Z γ (cs.getD j .top) v) :
  (i.td.agg=true→k+i.size≤cs.length→∃ u,(Instr.loadAt t (.pointer (some (A.at k)))).run P w=.ok u w∧AVRel w Z γ (.agg ((cs.drop k).take i.size)) u) ∧
  (i.td.agg=false→k<cs.length→∃ u,(Instr.loadAt t (.pointer (some (A.at k)))).run P w=.ok u w∧AVRel w Z γ (cs.getD k .top) u):=by
 refine⟨fun ha hk=>?_,fun ha hk=>?_⟩
 ·obtain⟨vs,hr,hv⟩:=load_cells (P:=P) k i.size hk hc
  refine⟨.agg vs,?_,.agg _ _ _ hv.1 hv.2⟩
  simp_all[Instr.loadAt,Instr.sureAddr,loadVar,run_isAgg,qas]
 ·obtain⟨v,hv,hr⟩:=hc k hk
  simp_all[Instr.loadAt,Instr.sureAddr,loadVar,run_isAgg]
theorem ORel.cells {o:Ob} {r:Rg} (ho:ORel w Z γ o r) {e:Nat} (he:e<o.els.length) :
  ∀ j,j<(o.els.getD e []).length→∃ v,w.cell? ((r.A.at (e * o.sz)).at j)=some v∧AVRel w Z γ ((o.els.getD e []).getD j .top) v:=fun j hj=>by
 rw[ho.len e he]at hj
 rw[qai]
 exact ho.cell e j he hj
theorem evLoad_sound (hh:HRel w Z γ h) {ty:Nat} {x:AV} {xv:Value} (hx:AVRel w Z γ x xv) {p:Prop} {v:AV} (he:evLoad P h ty x=some (p,v)) (hp:p) :
  ∃ u,(Instr.loadAt ty xv).run P w=.ok u w∧AVRel w Z γ v u:=by
 cases hx with
 | ptr γ id e off r hg =>
  simp only[evLoad]at he
  cases hid:h id with
  | none=>grind
  | some o =>
   cases hi:ttOf P ty with
   | none=>grind
   | some i =>
    simp only[hid,hi]at he
    obtain⟨r',hr',ho⟩:=hh.obj id o hid
    rw[hg]at hr';injection hr' with hr';subst hr'
    by_cases ha:i.td.agg=true
    ·rw[if_pos ha]at he
     injection he with he;injection he with h1 h2;subst h1;subst h2
     have:=(loadAt_of hi off (ho.cells hp.1)).1 ha (by rw[ho.len e hp.1];omega)
     rwa [qai,← ho.sz]at this
    ·have ha':i.td.agg=false:=by grind
     rw[if_neg ha]at he
     injection he with he;injection he with h1 h2;subst h1;subst h2
     have:=(loadAt_of hi off (ho.cells hp.1)).2 ha' (by rw[ho.len e hp.1];omega)
     rwa [qai,← ho.sz]at this
 | elm γ cs A vf hA hz hc hr =>
  simp only[evLoad]at he
  cases hi:ttOf P ty with
  | none=>grind
  | some i =>
   simp only[hi]at he
   have hcc:∀ j,j<cs.length→∃ v,w.cell? (A.at j)=some v∧AVRel w Z γ (cs.getD j .top) v:=fun j hj=>⟨_,hc j hj,(hr j hj).ofClosed⟩
   by_cases ha:i.td.agg=true
   ·rw[if_pos ha]at he
    injection he with he;injection he with h1 h2;subst h1;subst h2
    have:=(loadAt_of hi 0 hcc).1 ha (by omega)
    grind[at_zero]
   ·have ha':i.td.agg=false:=by grind
    rw[if_neg ha]at he
    injection he with he;injection he with h1 h2;subst h1;subst h2
    have:=(loadAt_of hi 0 hcc).2 ha' hp
    grind[at_zero]
 | _=>grind[evLoad]
def evFieldAddr (P:Program) (s f:Nat):AV→Option (Prop×AV)
 | .ptr id e off=>match ttOf P s with
  | some ⟨.srt fs,_,_,_⟩=>match fs[f]? with
   | some (fo,ft)=>match ttOf P ft with
    | some i=>some (i.size≠0,.ptr id e (off+fo))
    | none=>none
   | none=>none
  | _=>none
 | .elm cs=>match ttOf P s with
  | some ⟨.srt fs,_,_,_⟩=>match fs[f]? with
   | some (fo,ft)=>match ttOf P ft with
    | some i=>some (i.size≠0,.elm (cs.drop fo))
    | none=>none
   | none=>none
  | _=>none
 | _=>none
theorem AVRel.elm_drop {cs:List AV} {A:Addr} {vf:Nat→Value} (hA:A.spot=none) (hz:∀ j,j<cs.length→Z (A.at j)) (hc:∀ j,j<cs.length→w.cell? (A.at j)=some (vf j))
  (hr:∀ j,j<cs.length→AVRel w Z noG (cs.getD j .top) (vf j)) (k:Nat):AVRel w Z γ (.elm (cs.drop k)) (.pointer (some (A.at k))):=by
 refine .elm _ _ _ (fun j=>vf (k+j)) rfl (fun j hj=>by grind[qai]) (fun j hj=>?_) (fun j hj=>?_)
 all_goals grind[qai]
theorem evFieldAddr_sound {s f:Nat} {x:AV} {xv:Value} (hx:AVRel w Z γ x xv) {p:Prop} {v:AV} (he:evFieldAddr P s f x=some (p,v)) (hp:p) :
  ∃ u,(Instr.fieldAt s xv f).run P w=.ok u w∧AVRel w Z γ v u:=by
 have key:∀ {A:Addr} {i:TI} {fs:List (Nat×Nat)} {fo ft sz by':Nat} {ze:List AV} {ift:TI},ttOf P s=some ⟨.srt fs,sz,by',ze⟩→fs[f]?=some (fo,ft)→ttOf P ft=some ift→ift.size≠0 →
   (Instr.fieldAt s (.pointer (some A)) f).run P w=.ok (.pointer (some (A.add fo))) w:=by
  intro A i fs fo ft sz by' ze ift h1 h2 h3 h4
  obtain⟨gs,hg1,hg2⟩:=tt_srt h1 rfl
  have hgf:∃ fl:Field,gs[f]?=some fl∧fl.offset=fo∧fl.type=ft:=by
   grind
  obtain⟨fl,hfl,rfl,rfl⟩:=hgf
  simp_all[qas,Instr.fieldAt,qaa,Instr.sureAddr,fieldPlace]
 cases hx with
 | ptr γ id e off r hg =>
  simp only[evFieldAddr]at he
  split at he
  ·rename_i fs sz by' ze hs
   split at he
   ·rename_i fo ft hf
    split at he
    ·rename_i i hi
     injection he with he;injection he with h1 h2;subst h1;subst h2
     refine⟨_,key (i:=i) hs hf hi hp,?_⟩
     rw[at_add,Nat.add_assoc]
     exact .ptr _ _ _ _ r hg
    grind
   grind
  grind
 | elm γ cs A vf hA hz hc hr =>
  simp only[evFieldAddr]at he
  split at he
  ·rename_i fs sz by' ze hs
   split at he
   ·rename_i fo ft hf
    split at he
    ·rename_i i hi
     injection he with he;injection he with h1 h2;subst h1;subst h2
     refine⟨_,key (i:=i) hs hf hi hp,?_⟩
     simp_all[add_of_spot,AVRel.elm_drop]
    grind
   grind
  grind
 | _=>grind[evFieldAddr]
def evIndexAddr (P:Program) (h:Hp) (ty:Nat) (x i:AV):Option (Prop×AV) :=
 match i with
 | .int _ n=>match ttOf P ty,x with
  | some ⟨.arr len el,_,_,_⟩,.ptr id e off=>match ttOf P el with
   | some ie=>some (0≤n∧n<len,.ptr id e (off+n.toNat * ie.size))
   | none=>none
  | some ⟨.arr len el,_,_,_⟩,.elm cs=>match ttOf P el with
   | some ie=>some (0≤n∧n<len,.elm (cs.drop (n.toNat * ie.size)))
   | none=>none
  | some ⟨.slc el,_,_,_⟩,.sl id e len=>match ttOf P el,h id with
   | some ie,some o=>some (0≤n∧n<len∧o.sz=ie.size,.ptr id (e+n.toNat) 0)
   | _,_=>none
  | some ⟨.slc el,_,_,_⟩,.slc id e len cap=>match ttOf P el,h id with
   | some ie,some o=>some (0≤n∧n<len∧o.sz=ie.size,.ptr id (e+n.toNat) 0)
   | _,_=>none
  | some ⟨.slc el,_,_,_⟩,.lst sz els=>match ttOf P el with
   | some ie=>some (0≤n∧n<els.length∧sz=ie.size,.elm (els.getD n.toNat []))
   | none=>none
  | _,_=>none
 | _=>none
theorem evIndexAddr_sound (hh:HRel w Z γ h) {ty:Nat} {x i:AV} {xv iv:Value} (hx:AVRel w Z γ x xv) (hi:AVRel w Z γ i iv) {p:Prop} {v:AV}
  (he:evIndexAddr P h ty x i=some (p,v)) (hp:p):∃ u,(Instr.indexAt ty xv iv).run P w=.ok u w∧AVRel w Z γ v u:=by
 cases hi <;> simp only[evIndexAddr,reduceCtorEq]at he
 rename_i k n
 split at he
 ·rename_i len el sz by' ze id e off ht
  cases hie:ttOf P el with
  | none=>simp[hie]at he
  | some ie =>
   simp only[hie,Option.some.injEq,Prod.mk.injEq]at he
   obtain⟨rfl,rfl⟩:=he
   cases hx with
   | ptr _ _ _ _ r hg =>
    refine⟨_,?_,.ptr _ id e _ r hg⟩
    simp[Instr.indexAt,asIntOf,qaa (tt_arr ht rfl),Instr.sureAddr,hp.1,hp.2,qas hie,at_add,Nat.add_assoc]
 ·rename_i len el sz by' ze cs ht
  cases hie:ttOf P el with
  | none=>simp[hie]at he
  | some ie =>
   simp only[hie,Option.some.injEq,Prod.mk.injEq]at he
   obtain⟨rfl,rfl⟩:=he
   cases hx with
   | elm _ _ A vf hA hz hc hr =>
    refine⟨_,?_,AVRel.elm_drop hA hz hc hr _⟩
    simp[Instr.indexAt,asIntOf,qaa (tt_arr ht rfl),Instr.sureAddr,hp.1,hp.2,qas hie,add_of_spot A hA]
 ·rename_i el sz by' ze id e len ht
  split at he
  ·rename_i ie o hie ho
   simp only[Option.some.injEq,Prod.mk.injEq]at he
   obtain⟨rfl,rfl⟩:=he
   obtain⟨h0,h1,h2⟩:=hp
   obtain⟨r',hr',hor⟩:=hh.obj _ _ ho
   cases hx with
   | sl _ _ _ _ cap r hg hl hc =>
    rw[hg]at hr';injection hr' with hr';subst hr'
    have hsz:ie.size=r.sz:=by rw[hor.sz,h2]
    refine⟨_,?_,.ptr _ id (e+n.toNat) 0 r hg⟩
    simp[Instr.indexAt,asIntOf,qaa (qau ht rfl),h0,h1,qas hie,at_add,hsz,Nat.add_mul]
   | sl0=>exact absurd h1 (by simp;omega)
  ·cases he
 ·rename_i el sz by' ze id e len cp ht
  split at he
  ·rename_i ie o hie ho
   simp only[Option.some.injEq,Prod.mk.injEq]at he
   obtain⟨rfl,rfl⟩:=he
   obtain⟨h0,h1,h2⟩:=hp
   obtain⟨r',hr',hor⟩:=hh.obj _ _ ho
   cases hx with
   | slc _ _ _ _ cap r hg hl hc =>
    rw[hg]at hr';injection hr' with hr';subst hr'
    have hsz:ie.size=r.sz:=by rw[hor.sz,h2]
    refine⟨_,?_,.ptr _ id (e+n.toNat) 0 r hg⟩
    simp[Instr.indexAt,asIntOf,qaa (qau ht rfl),h0,h1,qas hie,at_add,hsz,Nat.add_mul]
   | slc0=>exact absurd h1 (by simp;omega)
  ·cases he
 ·rename_i el sz by' ze sz' els ht
  cases hie:ttOf P el with
  | none=>simp[hie]at he
  | some ie =>
   simp only[hie,Option.some.injEq,Prod.mk.injEq]at he
   obtain⟨rfl,rfl⟩:=he
   obtain⟨h0,h1,h2⟩:=hp
   subst h2
   cases hx with
   | lst _ _ _ a cap vf hl hc hs hr =>
    have hlt:n.toNat<els.length:=by omega
    obtain⟨A,rfl,hz,hA,hcell⟩:=hc (by rintro rfl;simp at hlt)
    refine⟨.pointer (some (A.at (n.toNat * ie.size))),?_,.elm _ _ _ (fun j=>vf n.toNat j) rfl (fun j hj=>by rw[qai];exact hz _ _ hlt (by rwa [hs _ hlt]at hj)) (fun j hj=>?_) (fun j hj=>?_)⟩
    ·simp[Instr.indexAt,asIntOf,qaa (qau ht rfl),h0,h1,qas hie,add_of_spot A hA]
    ·rw[qai];exact hcell _ _ hlt (by rwa [hs _ hlt]at hj)
    ·exact hr _ _ hlt (by rwa [hs _ hlt]at hj)
 ·cases he
end
end Go.Av

end
section
namespace Go.Av
open Go.RowKit
section
variable {P:Program} {w:World} {Z:Addr→Prop} {γ:Gm} {h:Hp}
def bOf (d:Nat):Option AV→Option (Prop×Nat)
 | none=>some (True,d)
 | some (.int _ n)=>some (0≤n,n.toNat)
 | _=>none
def chunks (sz n:Nat) (cs:List AV):List (List AV):=(List.range n).map fun i=>(cs.drop (i * sz)).take sz
def evSlice (P:Program) (h:Hp) (ty:Nat) (x:AV) (lo hi:Option AV):Option (Prop×AV) :=
 match x with
 | .str s=>match bOf 0 lo,bOf s.length hi,ttOf P ty with
  | some (p,l),some (q,u),some ⟨.str,_,_,_⟩=>some (p∧q∧l≤u∧u≤s.length,.str ((s.drop l).take (u-l)))
  | _,_,_=>none
 | .sl id e len=>match bOf 0 lo,bOf len hi,ttOf P ty with
  | some (p,l),some (q,u),some ⟨.slc el,_,_,_⟩=>match ttOf P el,h id with
   | some ie,some o=>some (p∧q∧l≤u∧u≤len∧o.sz=ie.size,.sl id (e+l) (u-l))
   | _,_=>none
  | _,_,_=>none
 | .slc id e len cap=>match bOf 0 lo,bOf len hi,ttOf P ty with
  | some (p,l),some (q,u),some ⟨.slc el,_,_,_⟩=>match ttOf P el,h id with
   | some ie,some o=>some (p∧q∧l≤u∧u≤cap∧o.sz=ie.size,.slc id (e+l) (u-l) (cap-l))
   | _,_=>none
  | _,_,_=>none
 | .lst sz els=>match bOf 0 lo,bOf els.length hi,ttOf P ty with
  | some (p,l),some (q,u),some ⟨.slc el,_,_,_⟩=>match ttOf P el with
   | some ie=>some (p∧q∧l≤u∧u≤els.length∧sz=ie.size,.lst sz ((els.drop l).take (u-l)))
   | none=>none
  | _,_,_=>none
 | .nils=>match bOf 0 lo,bOf 0 hi,ttOf P ty with
  | some (p,l),some (q,u),some ⟨.slc el,_,_,_⟩=>match ttOf P el with
   | some ie=>some (p∧q∧l=0∧u=0,.nils)
   | none=>none
  | _,_,_=>none
 | .ptr id e off=>match lo,hi,ttOf P ty with
  | none,none,some ⟨.arr n el,_,_,_⟩=>match ttOf P el with
   | some ie=>some (True,.bsl id e off ie.size n)
   | none=>none
  | _,_,_=>none
 | .elm cs=>match lo,hi,ttOf P ty with
  | none,none,some ⟨.arr n el,_,_,_⟩=>match ttOf P el with
   | some ie=>some (n * ie.size≤cs.length,.lst ie.size (chunks ie.size n cs))
   | none=>none
  | _,_,_=>none
 | _=>none
inductive OpRel (w:World) (Z:Addr→Prop) (γ:Gm):Option AV→Option Value→Prop
 | none:OpRel w Z γ none none
 | some (a:AV) (v:Value) (h:AVRel w Z γ a v):OpRel w Z γ (some a) (some v)
theorem qbt {a:AV} {v:Value} (ha:AVRel w Z γ a v) {d y n:Nat} {p:Prop} {code:BoundsCode} (hb:bOf d (some a)=some (p,n)) (hp:p) (hy:n≤y) :
  (Instr.sliceBound v y code).run P w=.ok n w:=by
 cases ha <;> simp only[bOf,Option.some.injEq,Prod.mk.injEq,reduceCtorEq]at hb
 grind[Instr.sliceBound,asIntOf,Sem.run_pure]
theorem qbv {lo hi:Option AV} {lv hv:Option Value} (hl:OpRel w Z γ lo lv) (hh:OpRel w Z γ hi hv) {isS:Bool} {len cap l u:Nat} {p q:Prop}
  (h1:bOf 0 lo=some (p,l)) (h2:bOf len hi=some (q,u)) (hp:p) (hq:q) (hlu:l≤u) (hu:u≤cap) :
  (Instr.sliceBounds isS len cap lv hv none).run P w=.ok (l,u,cap) w:=by
 unfold Instr.sliceBounds
 cases hh with
 | none =>
  obtain⟨rfl,rfl⟩:=h2
  cases hl with
  | none =>
   obtain⟨rfl,rfl⟩:=h1
   simp
  | some a v ha=>simp[qbt (P:=P) ha h1 hp hlu]
 | some b v hb =>
  simp[qbt (P:=P) hb h2 hq hu]
  cases hl with
  | none =>
   obtain⟨rfl,rfl⟩:=h1
   simp
  | some a v ha=>simp[qbt (P:=P) ha h1 hp hlu]
theorem bytes_size (s:List UInt8):(ByteArray.mk s.toArray).size=s.length:=by rfl
theorem slc_cut {id e cap l u:Nat} {r:Rg} {k:Nat} (hg:γ id=some r) (hc:(e+cap) * r.sz≤r.n) (h3:l≤u) (h4:u≤cap) (hsz:k=r.sz) :
  AVRel w Z γ (.slc id (e+l) (u-l) (cap-l)) (.slice (if cap=l then some (r.A.at (e * r.sz)) else Option.map (fun x=>x.add (l * k)) (some (r.A.at (e * r.sz)))) (u-l) (cap-l)):=by
 by_cases hm:cap=l
 ·have h0:u-l=0:=by omega
  have h00:cap-l=0:=by omega
  rw[h0,h00];exact .slc0 _ _ _ _
 ·rw[if_neg hm]
  have:(Option.map (fun x=>x.add (l * k)) (some (r.A.at (e * r.sz))))=some (r.A.at ((e+l) * r.sz)):=by
   grind[at_add]
  rw[this]
  refine .slc _ _ _ _ _ r hg (by omega) ?_
  grind
theorem evSlice_sound (hh:HRel w Z γ h) {ty:Nat} {x:AV} {xv:Value} {lo hi:Option AV} {lv hv:Option Value} (hx:AVRel w Z γ x xv) (hl:OpRel w Z γ lo lv) (hi':OpRel w Z γ hi hv)
  {p:Prop} {v:AV} (he:evSlice P h ty x lo hi=some (p,v)) (hp:p):∃ u,(Instr.sliceAt ty xv lv hv none).run P w=.ok u w∧AVRel w Z γ v u:=by
 cases hx with
 | str γ s =>
  simp only[evSlice]at he
  split at he
  ·rename_i p1 l q u sz by' ze e1 e2 ht
   obtain⟨rfl,rfl⟩:=he
   obtain⟨h1,h2,h3,h4⟩:=hp
   have hb:=qbv (P:=P) (isS:=false) (cap:=(ByteArray.mk s.toArray).size) (len:=(ByteArray.mk s.toArray).size) hl hi' e1 (by grind[bytes_size]) h1 h2 h3 (by grind[bytes_size])
   refine⟨_,?_,.str _ _⟩
   simp only[Instr.sliceAt,Sem.run_bind,qaa (tt_str ht rfl),Result.andThen_ok,Instr.slice,Option.isSome_none,Bool.false_eq_true,if_false,hb,Sem.run_pure]
   simp[ByteArray.extract_mk]
  grind
 | sl γ id e len cap r hg hlc hc =>
  simp only[evSlice]at he
  split at he
  ·rename_i p1 l q u el sz by' ze e1 e2 ht
   split at he
   ·rename_i ie o hie ho
    obtain⟨rfl,rfl⟩:=he
    obtain⟨h1,h2,h3,h4,h5⟩:=hp
    obtain⟨r',hr',hor⟩:=hh.obj _ _ ho
    rw[hg]at hr';injection hr' with hr';subst hr'
    have hsz:ie.size=r.sz:=by rw[hor.sz,h5]
    have hb:=qbv (P:=P) (isS:=true) (cap:=cap) hl hi' e1 e2 h1 h2 h3 (by omega)
    refine⟨_,by simp only[Instr.sliceAt,Sem.run_bind,qaa (qau ht rfl),Result.andThen_ok,Instr.slice,hb,qas hie,Sem.run_pure];rfl,?_⟩
    by_cases hm:cap=l
    ·have h0:u-l=0:=by omega
     have h00:cap-l=0:=by omega
     rw[h0,h00];exact .sl0 _ _ _ _
    ·rw[if_neg hm]
     have:(Option.map (fun x=>x.add (l * ie.size)) (some (r.A.at (e * r.sz))))=some (r.A.at ((e+l) * r.sz)):=by
      grind[at_add]
     rw[this]
     refine .sl _ _ _ _ _ r hg (by omega) ?_
     grind
   grind
  grind
 | sl0 γ id e a =>
  simp only[evSlice]at he
  split at he
  ·rename_i p1 l q u el sz by' ze e1 e2 ht
   split at he
   ·rename_i ie o hie ho
    obtain⟨rfl,rfl⟩:=he
    obtain⟨h1,h2,h3,h4,h5⟩:=hp
    have hb:=qbv (P:=P) (isS:=true) (cap:=0) hl hi' e1 e2 h1 h2 h3 (by omega)
    refine⟨_,by simp only[Instr.sliceAt,Sem.run_bind,qaa (qau ht rfl),Result.andThen_ok,Instr.slice,hb,qas hie,Sem.run_pure];rfl,?_⟩
    have h0:u-l=0:=by omega
    have h00:0-l=0:=by omega
    rw[h0,h00];exact .sl0 _ _ _ _
   grind
  grind
 | slc γ id e len cap r hg hlc hc =>
  simp only[evSlice]at he
  split at he
  ·rename_i p1 l q u el sz by' ze e1 e2 ht
   split at he
   ·rename_i ie o hie ho
    obtain⟨rfl,rfl⟩:=he
    obtain⟨h1,h2,h3,h4,h5⟩:=hp
    obtain⟨r',hr',hor⟩:=hh.obj _ _ ho
    rw[hg]at hr';injection hr' with hr';subst hr'
    have hsz:ie.size=r.sz:=by rw[hor.sz,h5]
    have hb:=qbv (P:=P) (isS:=true) (cap:=cap) hl hi' e1 e2 h1 h2 h3 (by omega)
    refine⟨_,by simp only[Instr.sliceAt,Sem.run_bind,qaa (qau ht rfl),Result.andThen_ok,Instr.slice,hb,qas hie,Sem.run_pure];rfl,?_⟩
    exact slc_cut hg hc h3 h4 hsz
   grind
  grind
 | slc0 γ id e a =>
  simp only[evSlice]at he
  split at he
  ·rename_i p1 l q u el sz by' ze e1 e2 ht
   split at he
   ·rename_i ie o hie ho
    obtain⟨rfl,rfl⟩:=he
    obtain⟨h1,h2,h3,h4,h5⟩:=hp
    have hb:=qbv (P:=P) (isS:=true) (cap:=0) hl hi' e1 e2 h1 h2 h3 (by omega)
    refine⟨_,by simp only[Instr.sliceAt,Sem.run_bind,qaa (qau ht rfl),Result.andThen_ok,Instr.slice,hb,qas hie,Sem.run_pure];rfl,?_⟩
    have h0:u-l=0:=by omega
    have h00:0-l=0:=by omega
    rw[h0,h00];exact .slc0 _ _ _ _
   grind
  grind
 | lst γ sz' els a cap vf hlc hc hs hr =>
  simp only[evSlice]at he
  split at he
  ·rename_i p1 l q u el sz by' ze e1 e2 ht
   split at he
   ·rename_i ie hie
    obtain⟨rfl,rfl⟩:=he
    obtain⟨h1,h2,h3,h4,h5⟩:=hp
    have hb:=qbv (P:=P) (isS:=true) (cap:=cap) hl hi' e1 e2 h1 h2 h3 (by omega)
    refine⟨_,by simp only[Instr.sliceAt,Sem.run_bind,qaa (qau ht rfl),Result.andThen_ok,Instr.slice,hb,qas hie,Sem.run_pure];rfl,?_⟩
    have hlen:((els.drop l).take (u-l)).length=u-l:=by grind
    have hget:∀ i,i<u-l→((els.drop l).take (u-l)).getD i []=els.getD (l+i) []:=fun i hi=>by
     grind
    generalize hA':(if cap=l then a else Option.map (fun x=>x.add (l * ie.size)) a)=a'
    have:=AVRel.lst (w:=w) (Z:=Z) γ sz' ((els.drop l).take (u-l)) a' (cap-l) (fun i j=>vf (l+i) j) (by omega) (fun hn=>?_) (fun i hi=>?_) (fun i j hi hj=>?_)
    ·grind
    ·have hpos:0<u-l:=by grind
     obtain⟨A,rfl,hz,hA,hcell⟩:=hc (by grind)
     rw[if_neg (by omega)]at hA'
     refine⟨A.at (l * ie.size),by grind[add_of_spot],fun i j hi hj=>(by
      grind[qai]),rfl,fun i j hi hj=>?_⟩
     grind[qai]
    all_goals grind
   grind
  grind
 | nils γ =>
  simp only[evSlice]at he
  split at he
  ·rename_i p1 l q u el sz by' ze e1 e2 ht
   split at he
   ·rename_i ie hie
    obtain⟨rfl,rfl⟩:=he
    obtain⟨h1,h2,rfl,rfl⟩:=hp
    have hb:=qbv (P:=P) (isS:=true) (cap:=0) hl hi' e1 e2 h1 h2 (by omega) (by omega)
    exact⟨_,by simp only[Instr.sliceAt,Sem.run_bind,qaa (qau ht rfl),Result.andThen_ok,Instr.slice,hb,qas hie,Sem.run_pure];rfl,by simp[AVRel.nils]⟩
   grind
  grind
 | ptr γ id e off r hg =>
  simp only[evSlice]at he
  split at he
  ·rename_i n el sz by' ze ht
   split at he
   ·rename_i ie hie
    obtain⟨rfl,rfl⟩:=he
    cases hl
    cases hi'
    refine⟨_,?_,.bsl _ id e off _ n r hg⟩
    by_cases h0:n=0 <;>
    simp[Instr.sliceAt,qaa (tt_arr ht rfl),Instr.sureAddr,Instr.sliceBounds,qas hie,h0,at_add]
   grind
  grind
 | elm γ cs A vf hA hz hc hr =>
  simp only[evSlice]at he
  split at he
  ·rename_i n el sz by' ze ht
   split at he
   ·rename_i ie hie
    obtain⟨rfl,rfl⟩:=he
    cases hl
    cases hi'
    have hlen:(chunks ie.size n cs).length=n:=by simp[chunks]
    have hget:∀ i,i<n→(chunks ie.size n cs).getD i []=(cs.drop (i * ie.size)).take ie.size:=fun i hi=>by
     grind[chunks]
    have hle:∀ i,i<n→i * ie.size+ie.size≤cs.length:=fun i hi=>by
     have:(i+1) * ie.size≤n * ie.size:=Nat.mul_le_mul_right _ hi
     grind
    have:=AVRel.lst (w:=w) (Z:=Z) γ ie.size (chunks ie.size n cs) (some A) n (fun i j=>vf (i * ie.size+j)) (by omega) (fun hn=>?_) (fun i hi=>?_) (fun i j hi hj=>?_)
    ·refine⟨.slice (some A) n n,?_,by grind⟩
     by_cases h0:n=0 <;>
     simp[Instr.sliceAt,qaa (tt_arr ht rfl),Instr.sureAddr,Instr.sliceBounds,qas hie,h0,add_of_spot A hA,at_zero A hA]
    all_goals grind
   grind
  grind
 | _=>simp_all[evSlice]
theorem sliceBounds3_of {lo:Option AV} {lv:Option Value} {hi mx:AV} {hv mv:Value} (hl:OpRel w Z γ lo lv) (hh:AVRel w Z γ hi hv) (hm:AVRel w Z γ mx mv) {isS:Bool} {len cap l u m:Nat} {p q r:Prop}
  (h1:bOf 0 lo=some (p,l)) (h2:bOf 0 (some hi)=some (q,u)) (h3:bOf 0 (some mx)=some (r,m)) (hp:p) (hq:q) (hr:r) (hlu:l≤u) (hum:u≤m) (hmc:m≤cap) :
  (Instr.sliceBounds isS len cap lv (some hv) (some mv)).run P w=.ok (l,u,m) w:=by
 unfold Instr.sliceBounds
 cases hl with
 | none =>
  obtain⟨rfl,rfl⟩:=h1
  simp[qbt (P:=P) hm h3 hr hmc,qbt (P:=P) hh h2 hq hum]
 | some a v ha =>
  simp[qbt (P:=P) hm h3 hr hmc,qbt (P:=P) hh h2 hq hum,qbt (P:=P) ha h1 hp hlu]
def evSlice3 (P:Program) (h:Hp) (ty:Nat) (x:AV) (lo hi:Option AV) (mx:AV):Option (Prop×AV) :=
 match hi with
 | some hi=>match bOf 0 lo,bOf 0 (some hi),bOf 0 (some mx),ttOf P ty with
  | some (p,l),some (q,u),some (r,m),some ⟨.slc el,_,_,_⟩=>match ttOf P el with
   | some ie=>match x with
    | .sl id e len=>match h id with
     | some o=>some (p∧q∧r∧l≤u∧u≤m∧m≤len∧o.sz=ie.size,.slc id (e+l) (u-l) (m-l))
     | none=>none
    | .slc id e len cap=>match h id with
     | some o=>some (p∧q∧r∧l≤u∧u≤m∧m≤cap∧o.sz=ie.size,.slc id (e+l) (u-l) (m-l))
     | none=>none
    | .nils=>some (p∧q∧r∧l=0∧u=0∧m=0,.nils)
    | _=>none
   | none=>none
  | _,_,_,_=>none
 | none=>none
theorem evSlice3_sound (hh:HRel w Z γ h) {ty:Nat} {x mx:AV} {xv mv:Value} {lo hi:Option AV} {lv hv:Option Value} (hx:AVRel w Z γ x xv) (hl:OpRel w Z γ lo lv) (hi':OpRel w Z γ hi hv) (hm:AVRel w Z γ mx mv)
  {p:Prop} {v:AV} (he:evSlice3 P h ty x lo hi mx=some (p,v)) (hp:p):∃ u,(Instr.sliceAt ty xv lv hv (some mv)).run P w=.ok u w∧AVRel w Z γ v u:=by
 unfold evSlice3 at he
 cases hi' with
 | none=>grind
 | some hi hv hi' =>
  simp only at he
  split at he
  ·rename_i p1 l q u r m el sz by' ze e1 e2 e3 ht
   split at he
   ·rename_i ie hie
    split at he
    ·rename_i id e len
     split at he
     ·rename_i o ho
      obtain⟨rfl,rfl⟩:=he
      obtain⟨h1,h2,h3,h4,h5,h6,h7⟩:=hp
      obtain⟨r',hr',hor⟩:=hh.obj _ _ ho
      cases hx with
      | sl _ _ _ _ cap r hg hlc hc =>
       rw[hg]at hr';injection hr' with hr';subst hr'
       have hsz:ie.size=r.sz:=by rw[hor.sz,h7]
       have hb:=sliceBounds3_of (P:=P) (isS:=true) (len:=len) (cap:=cap) hl hi' hm e1 e2 e3 h1 h2 h3 h4 h5 (by omega)
       refine⟨_,by simp only[Instr.sliceAt,Sem.run_bind,qaa (qau ht rfl),Result.andThen_ok,Instr.slice,hb,qas hie,Sem.run_pure];rfl,?_⟩
       refine slc_cut (cap:=m) hg (Nat.le_trans (Nat.mul_le_mul_right _ (by omega)) hc) h4 h5 hsz
      | sl0 _ _ _ a =>
       have hb:=sliceBounds3_of (P:=P) (isS:=true) (len:=0) (cap:=0) hl hi' hm e1 e2 e3 h1 h2 h3 h4 h5 (by omega)
       refine⟨_,by simp only[Instr.sliceAt,Sem.run_bind,qaa (qau ht rfl),Result.andThen_ok,Instr.slice,hb,qas hie,Sem.run_pure];rfl,?_⟩
       have h0:u-l=0:=by omega
       have h00:m-l=0:=by omega
       rw[h0,h00];exact .slc0 _ _ _ _
     grind
    ·rename_i id e len cp
     split at he
     ·rename_i o ho
      obtain⟨rfl,rfl⟩:=he
      obtain⟨h1,h2,h3,h4,h5,h6,h7⟩:=hp
      obtain⟨r',hr',hor⟩:=hh.obj _ _ ho
      cases hx with
      | slc _ _ _ _ cap r hg hlc hc =>
       rw[hg]at hr';injection hr' with hr';subst hr'
       have hsz:ie.size=r.sz:=by rw[hor.sz,h7]
       have hb:=sliceBounds3_of (P:=P) (isS:=true) (len:=len) (cap:=cp) hl hi' hm e1 e2 e3 h1 h2 h3 h4 h5 (by omega)
       refine⟨_,by simp only[Instr.sliceAt,Sem.run_bind,qaa (qau ht rfl),Result.andThen_ok,Instr.slice,hb,qas hie,Sem.run_pure];rfl,?_⟩
       refine slc_cut (cap:=m) hg (Nat.le_trans (Nat.mul_le_mul_right _ (by omega)) hc) h4 h5 hsz
      | slc0 _ _ _ a =>
       have hb:=sliceBounds3_of (P:=P) (isS:=true) (len:=0) (cap:=0) hl hi' hm e1 e2 e3 h1 h2 h3 h4 h5 (by omega)
       refine⟨_,by simp only[Instr.sliceAt,Sem.run_bind,qaa (qau ht rfl),Result.andThen_ok,Instr.slice,hb,qas hie,Sem.run_pure];rfl,?_⟩
       have h0:u-l=0:=by omega
       have h00:m-l=0:=by omega
       rw[h0,h00];exact .slc0 _ _ _ _
     grind
    ·obtain⟨rfl,rfl⟩:=he
     obtain⟨h1,h2,h3,rfl,rfl,rfl⟩:=hp
     cases hx
     have hb:=sliceBounds3_of (P:=P) (isS:=true) (len:=0) (cap:=0) hl hi' hm e1 e2 e3 h1 h2 h3 (by omega) (by omega) (by omega)
     exact⟨_,by simp only[Instr.sliceAt,Sem.run_bind,qaa (qau ht rfl),Result.andThen_ok,Instr.slice,hb,qas hie,Sem.run_pure];rfl,by simp[AVRel.nils]⟩
    grind
   grind
  grind
def evCap (P:Program) (ty:Nat):AV→Option (Prop×AV)
 | .slc _ _ _ cap=>match ttOf P ty with
  | some ⟨.slc _,_,_,_⟩=>some (True,.int .i64 cap)
  | _=>none
 | .nils=>match ttOf P ty with
  | some ⟨.slc _,_,_,_⟩=>some (True,.int .i64 0)
  | _=>none
 | _=>none
theorem evCap_sound {ty rt:Nat} {x:AV} {xv:Value} (hx:AVRel w Z γ x xv) {p:Prop} {v:AV} (he:evCap P ty x=some (p,v)) (hp:p) :
  ∃ u,(Builtin.cap_ #[ty] rt #[xv]).run P w=.ok u w∧AVRel w Z γ v u:=by
 cases hx <;> simp only[evCap,reduceCtorEq]at he
 all_goals
  split at he
  ·rename_i ht
   obtain⟨rfl,rfl⟩:=he
   exact⟨_,by simp[Builtin.cap_,qaa (qau ht rfl),goInt],.int _ _ _⟩
  grind
def evIndex (P:Program) (ty:Nat) (x i:AV):Option (Prop×AV) :=
 match i with
 | .int _ n=>match ttOf P ty,x with
  | some ⟨.arr len el,_,_,_⟩,.agg cs=>match ttOf P el with
   | some ie=>if ie.td.agg then some (0≤n∧n<len∧n.toNat * ie.size+ie.size≤cs.length,.agg ((cs.drop (n.toNat * ie.size)).take ie.size))
    else some (0≤n∧n<len∧n.toNat * ie.size<cs.length,cs.getD (n.toNat * ie.size) .top)
   | none=>none
  | some ⟨.str,_,_,_⟩,.str s=>some (0≤n∧n<s.length,.int .u8 (s.getD n.toNat 0).toNat)
  | _,_=>none
 | _=>none
theorem CRel.part {cs:List AV} {vs:Array Value} (hr:CRel w Z γ cs vs) {t:Nat} {i:TI} (ht:ttOf P t=some i) (off:Nat) :
  (i.td.agg=true→off+i.size≤cs.length→∃ u,(part t vs off).run P w=.ok u w∧AVRel w Z γ (.agg ((cs.drop off).take i.size)) u) ∧
  (i.td.agg=false→off<cs.length→∃ u,(part t vs off).run P w=.ok u w∧AVRel w Z γ (cs.getD off .top) u):=by
 refine⟨fun ha hk=>?_,fun ha hk=>?_⟩
 ·refine⟨.agg (vs.extract off (off+i.size)),by simp_all[Go.part,run_isAgg,qas],.agg _ _ _ ?_ fun j hj=>?_⟩
  ·have:=hr.1;grind
  ·simp only[List.length_take,List.length_drop]at hj
   have h1:((cs.drop off).take i.size).getD j .top=cs.getD (off+j) .top:=by
    grind
   have h2:(vs.extract off (off+i.size)).getD j undef=vs.getD (off+j) undef:=by
    have:=hr.1
    simp only[Array.getD_eq_getD_getElem?,Array.getElem?_extract]
    grind
   rw[h1,h2];exact hr.2 _ (by omega)
 ·have hv:vs[off]?=some (vs.getD off undef):=by
   have:=hr.1
   simp_all
  generalize hx:vs.getD off undef=x at hv
  have hrx:=hr.2 _ hk
  simp_all[Go.part,run_isAgg]
theorem evIndex_sound {ty:Nat} {x i:AV} {xv iv:Value} (hx:AVRel w Z γ x xv) (hi:AVRel w Z γ i iv) {p:Prop} {v:AV}
  (he:evIndex P ty x i=some (p,v)) (hp:p):∃ u,(Instr.index ty xv iv).run P w=.ok u w∧AVRel w Z γ v u:=by
 cases hi <;> simp only[evIndex,reduceCtorEq]at he
 rename_i k n
 split at he
 ·rename_i len el sz by' ze cs ht
  cases hx with
  | agg _ _ vs hs hr =>
  have hcr:CRel w Z γ cs vs:=⟨hs,hr⟩
  cases hie:ttOf P el with
  | none=>simp[hie]at he
  | some ie =>
   simp only[hie]at he
   by_cases ha:ie.td.agg=true
   ·rw[if_pos ha]at he
    simp only[Option.some.injEq,Prod.mk.injEq]at he
    obtain⟨rfl,rfl⟩:=he
    obtain⟨h0,h1,h2⟩:=hp
    obtain⟨u,hu,hr'⟩:=(hcr.part (P:=P) hie _).1 ha h2
    exact⟨u,by simp[Instr.index,asIntOf,qaa (tt_arr ht rfl),h0,h1,qas hie,hu],hr'⟩
   ·have ha':ie.td.agg=false:=by simpa using ha
    rw[if_neg ha]at he
    simp only[Option.some.injEq,Prod.mk.injEq]at he
    obtain⟨rfl,rfl⟩:=he
    obtain⟨h0,h1,h2⟩:=hp
    obtain⟨u,hu,hr'⟩:=(hcr.part (P:=P) hie _).2 ha' h2
    exact⟨u,by simp[Instr.index,asIntOf,qaa (tt_arr ht rfl),h0,h1,qas hie,hu],hr'⟩
 ·rename_i sz by' ze s ht
  cases hx
  simp only[Option.some.injEq,Prod.mk.injEq]at he
  obtain⟨rfl,rfl⟩:=he
  obtain⟨h0,h1⟩:=hp
  have hlt:n.toNat<s.length:=by omega
  have hg:(ByteArray.mk s.toArray)[n.toNat]?=some (s.getD n.toNat 0):=by
   rw[ByteArray.getElem?_lt' _ _ (by grind[bytes_size])]
   congr 1
   rw[List.getD,List.getElem?_eq_getElem hlt]
   rfl
  refine⟨_,?_,.int _ _ _⟩
  simp only[Instr.index,asIntOf,Sem.run_bind,Sem.run_pure,Result.andThen_ok,qaa (tt_str ht rfl),h0,if_true,hg]
 grind
def evField (P:Program) (s f:Nat):AV→Option (Prop×AV)
 | .agg cs=>match ttOf P s with
  | some ⟨.srt fs,_,_,_⟩=>match fs[f]? with
   | some (fo,ft)=>match ttOf P ft with
    | some i=>if i.td.agg then some (fo+i.size≤cs.length,.agg ((cs.drop fo).take i.size)) else some (fo<cs.length,cs.getD fo .top)
    | none=>none
   | none=>none
  | _=>none
 | _=>none
theorem evField_sound {s f:Nat} {x:AV} {xv:Value} (hx:AVRel w Z γ x xv) {p:Prop} {v:AV} (he:evField P s f x=some (p,v)) (hp:p) :
  ∃ u,(Instr.field s xv f).run P w=.ok u w∧AVRel w Z γ v u:=by
 cases hx with
 | agg _ cs vs hs hr =>
  have hcr:CRel w Z γ cs vs:=⟨hs,hr⟩
  simp only[evField]at he
  split at he
  ·rename_i fs sz by' ze hss
   split at he
   ·rename_i fo ft hf
    split at he
    ·rename_i i hi
     obtain⟨gs,hg1,hg2⟩:=tt_srt hss rfl
     have hgf:∃ fl:Field,gs[f]?=some fl∧fl.offset=fo∧fl.type=ft:=by
      grind
     obtain⟨fl,hfl,rfl,rfl⟩:=hgf
     by_cases ha:i.td.agg=true
     ·rw[if_pos ha]at he
      obtain⟨rfl,rfl⟩:=he
      obtain⟨u,hu,hr'⟩:=(hcr.part (P:=P) hi _).1 ha hp
      simp_all[Instr.field,qaa,asAgg]
     ·have ha':i.td.agg=false:=by grind
      rw[if_neg ha]at he
      obtain⟨rfl,rfl⟩:=he
      obtain⟨u,hu,hr'⟩:=(hcr.part (P:=P) hi _).2 ha' hp
      simp_all[Instr.field,qaa,asAgg]
    grind
   grind
  grind
 | _=>grind[evField]
def evLen (P:Program) (ty:Nat):AV→Option (Prop×AV)
 | .str s=>match ttOf P ty with
  | some ⟨.str,_,_,_⟩=>some (True,.int .i64 s.length)
  | _=>none
 | .sl _ _ len=>match ttOf P ty with
  | some ⟨.slc _,_,_,_⟩=>some (True,.int .i64 len)
  | _=>none
 | .slc _ _ len _=>match ttOf P ty with
  | some ⟨.slc _,_,_,_⟩=>some (True,.int .i64 len)
  | _=>none
 | .bsl _ _ _ _ n=>match ttOf P ty with
  | some ⟨.slc _,_,_,_⟩=>some (True,.int .i64 n)
  | _=>none
 | .lst _ els=>match ttOf P ty with
  | some ⟨.slc _,_,_,_⟩=>some (True,.int .i64 els.length)
  | _=>none
 | .nils=>match ttOf P ty with
  | some ⟨.slc _,_,_,_⟩=>some (True,.int .i64 0)
  | _=>none
 | _=>match ttOf P ty with
  | some ⟨.arr n _,_,_,_⟩=>some (True,.int .i64 n)
  | _=>none
theorem evLen_sound {ty rt:Nat} {x:AV} {xv:Value} (hx:AVRel w Z γ x xv) {p:Prop} {v:AV} (he:evLen P ty x=some (p,v)) (hp:p) :
  ∃ u,(Builtin.len_ #[ty] rt #[xv]).run P w=.ok u w∧AVRel w Z γ v u:=by
 have arr:∀ n e sz b z,ttOf P ty=some ⟨.arr n e,sz,b,z⟩→(Builtin.len_ #[ty] rt #[xv]).run P w=.ok (.int .i64 n) w:=fun n e sz b z ht=>by
  simp[Builtin.len_,qaa (tt_arr ht rfl),goInt]
 cases hx <;> simp only[evLen]at he
 case str s =>
  split at he
  ·rename_i ht
   obtain⟨rfl,rfl⟩:=he
   refine⟨_,?_,.int _ _ _⟩
   simp only[Builtin.len_,Sem.run_bind,qaa (tt_str ht rfl),Result.andThen_ok,goInt,bytes_size,List.getElem?_toArray,List.getElem?_cons_zero,Sem.run_pure]
  grind
 case sl =>
  split at he
  ·rename_i ht
   obtain⟨rfl,rfl⟩:=he
   exact⟨_,by simp[Builtin.len_,qaa (qau ht rfl),goInt],.int _ _ _⟩
  grind
 case sl0 =>
  split at he
  ·rename_i ht
   obtain⟨rfl,rfl⟩:=he
   exact⟨_,by simp[Builtin.len_,qaa (qau ht rfl),goInt],.int _ _ _⟩
  grind
 case slc =>
  split at he
  ·rename_i ht
   obtain⟨rfl,rfl⟩:=he
   exact⟨_,by simp[Builtin.len_,qaa (qau ht rfl),goInt],.int _ _ _⟩
  grind
 case slc0 =>
  split at he
  ·rename_i ht
   obtain⟨rfl,rfl⟩:=he
   exact⟨_,by simp[Builtin.len_,qaa (qau ht rfl),goInt],.int _ _ _⟩
  grind
 case bsl =>
  split at he
  ·rename_i ht
   obtain⟨rfl,rfl⟩:=he
   exact⟨_,by simp[Builtin.len_,qaa (qau ht rfl),goInt],.int _ _ _⟩
  grind
 case lst =>
  split at he
  ·rename_i ht
   obtain⟨rfl,rfl⟩:=he
   exact⟨_,by simp[Builtin.len_,qaa (qau ht rfl),goInt],.int _ _ _⟩
  grind
 case nils =>
  split at he
  ·rename_i ht
   obtain⟨rfl,rfl⟩:=he
   exact⟨_,by simp[Builtin.len_,qaa (qau ht rfl),goInt],.int _ _ _⟩
  grind
 all_goals
  split at he
  ·rename_i ht
   obtain⟨rfl,rfl⟩:=he
   exact⟨_,arr _ _ _ _ _ ht,.int _ _ _⟩
  grind
end
end Go.Av

end
section
namespace Go.Av
open Go.RowKit
def beq1:AV→AV→Bool
 | .int _ a,.int _ b=>a == b
 | .bool a,.bool b=>a == b
 | .str a,.str b=>a == b
 | _,_=>false
def beqC:List AV→List AV→Bool
 | [],[]=>true
 | a::r,b::s=>beq1 a b && beqC r s
 | _,_=>false
def sh1:AV→AV→Bool
 | .int k _,.int k' _=>decide (k=k')
 | .bool _,.bool _=>true
 | .str _,.str _=>true
 | _,_=>false
def shL:List AV→List AV→Bool
 | [],[]=>true
 | a::r,b::s=>sh1 a b && shL r s
 | _,_=>false
theorem beqC_append:∀ {a c:List AV} (b d:List AV),a.length=c.length→beqC (a++b) (c++d)=(beqC a c && beqC b d)
 | [],[],b,d,_=>by rfl
 | x::a,y::c,b,d,h=>by simp[beqC,beqC_append (a:=a) (c:=c) b d (by grind),Bool.and_assoc]
theorem shL_length:∀ {a b:List AV},shL a b=true→a.length=b.length
 | [],[],_=>rfl
 | x::a,y::b,h=>by simp[shL]at h;simp[shL_length h.2]
 | [],_::_,h=>by grind[shL]
 | _::_,[],h=>by grind[shL]
theorem shL_append:∀ {a c:List AV} (b d:List AV),a.length=c.length→shL (a++b) (c++d)=(shL a c && shL b d)
 | [],[],b,d,_=>by rfl
 | x::a,y::c,b,d,h=>by simp[shL,shL_append (a:=a) (c:=c) b d (by grind),Bool.and_assoc]
theorem sh1_trans {a b c:AV} (h:sh1 a b=true) (k:sh1 b c=true):sh1 a c=true:=by
 cases a <;> cases b <;> simp only[sh1,Bool.false_eq_true]at h <;> cases c <;> simp_all [sh1]
theorem sh1_symm {a b:AV} (h:sh1 a b=true):sh1 b a=true:=by
 cases a <;> cases b <;> simp_all [sh1]
theorem shL_trans:∀ {a b c:List AV},shL a b=true→shL b c=true→shL a c=true
 | [],[],[],_,_=>rfl
 | x::a,y::b,z::c,h,k=>by
  simp only[shL,Bool.and_eq_true]at h k ⊢
  exact⟨sh1_trans h.1 k.1,shL_trans h.2 k.2⟩
 | [],_::_,_,h,_=>by grind[shL]
 | _::_,[],_,h,_=>by grind[shL]
 | [],[],_::_,_,k=>by omega
 | _::_,_::_,[],_,k=>by grind[shL]
theorem shL_symm:∀ {a b:List AV},shL a b=true→shL b a=true
 | [],[],_=>rfl
 | x::a,y::b,h=>by
  simp only[shL,Bool.and_eq_true]at h ⊢
  exact⟨sh1_symm h.1,shL_symm h.2⟩
 | [],_::_,h=>by grind[shL]
 | _::_,[],h=>by grind[shL]
theorem shL_take {a b:List AV} (n:Nat) (h:shL a b=true):shL (a.take n) (b.take n)=true:=by
 grind[shL_length,List.take_append_drop,shL_append]
theorem shL_drop {a b:List AV} (n:Nat) (h:shL a b=true):shL (a.drop n) (b.drop n)=true:=by
 have hl:=shL_length h
 rw[← List.take_append_drop n a,← List.take_append_drop n b,shL_append _ _ (by grind),Bool.and_eq_true]at h
 grind
mutual
def eqOk (P:Program):Nat→Nat→Bool
 | 0,_=>false
 | d+1,t=>match ttOf P t,P.underlying t with
  | some i,some .bool=>i.size == 1 && shL i.zero [.bool false]
  | some i,some (.int k)=>i.size == 1 && shL i.zero [.int k 0]
  | some i,some .string=>i.size == 1 && shL i.zero [.str []]
  | some i,some (.struct fs)=>!P.stoodInHeld t && i.zero.length == i.size && eqFs P d i.zero fs.toList 0 i.size
  | some i,some (.array n e)=>eqOk P d e && i.zero.length == i.size && (match ttOf P e with
   | some ie=>i.size == n * ie.size && (List.range n).all (fun j=>shL ie.zero ((i.zero.drop (j * ie.size)).take ie.size))
   | none=>false)
  | _,_=>false
def eqFs (P:Program) (d:Nat) (zero:List AV):List Field→Nat→Nat→Bool
 | [],off,total=>off == total
 | f::r,off,total=>f.name != "_" && f.offset == off && eqOk P d f.type && (match ttOf P f.type with
  | some i=>shL i.zero ((zero.drop off).take i.size) && decide (off+i.size≤total) && eqFs P d zero r (off+i.size) total
  | none=>false)
end
section
variable {P:Program} {w:World} {Z:Addr→Prop} {γ:Gm}
def Win (cs:List AV) (off n:Nat):List AV:=(cs.drop off).take n
def EqS (P:Program) (w:World) (Z:Addr→Prop) (γ:Gm) (D t:Nat):Prop :=
 ∀ (i:TI),ttOf P t=some i→∀ (xs ys:Array Value) (cs ds:List AV),CRel w Z γ cs xs→CRel w Z γ ds ys→∀ off,off+i.size≤cs.length→off+i.size≤ds.length →
  shL i.zero (Win cs off i.size)=true→shL i.zero (Win ds off i.size)=true →
  ∃ x y,(part t xs off).run P w=.ok x w∧(part t ys off).run P w=.ok y w∧(Op.equalIn D t x y).run P w=.ok (beqC (Win cs off i.size) (Win ds off i.size)) w
theorem win_one {cs:List AV} {off:Nat} (h:off+1≤cs.length):Win cs off 1=[cs.getD off .top]:=by
 grind[Win,List.drop_eq_getElem_cons]
theorem eqScal {D t:Nat} {i:TI} {z:AV} (ht:ttOf P t=some i) (ha:i.td.agg=false) (hs:i.size=1) (hz:shL i.zero [z]=true)
  (hE:∀ a b,sh1 z a=true→sh1 z b=true→∀ x y,AVRel w Z γ a x→AVRel w Z γ b y→(Op.equalIn D t x y).run P w=.ok (beq1 a b) w):EqS P w Z γ D t:=by
 intro i' hi' xs ys cs ds hx hy off h1 h2 hc hd
 rw[ht]at hi';injection hi' with hi';subst hi'
 rw[hs]at h1 h2
 rw[hs,win_one h1]at hc
 rw[hs,win_one h2]at hd
 rw[hs,win_one h1,win_one h2]
 obtain⟨x,hx1,hx2⟩:=(hx.part (P:=P) ht off).2 ha (by omega)
 obtain⟨y,hy1,hy2⟩:=(hy.part (P:=P) ht off).2 ha (by omega)
 grind[shL_trans,shL_symm,shL,beqC]
theorem Win_length {cs:List AV} {off n:Nat} (h:off+n≤cs.length):(Win cs off n).length=n:=by grind[Win]
theorem CRel.win {cs:List AV} {xs:Array Value} (h:CRel w Z γ cs xs) {t:Nat} {i:TI} (ht:ttOf P t=some i) (ha:i.td.agg=true) (off:Nat) (ho:off+i.size≤cs.length) :
  ∃ us,(Go.part t xs off).run P w=.ok (.agg us) w∧CRel w Z γ (Win cs off i.size) us:=by
 obtain⟨u,hu,hr⟩:=(h.part (P:=P) ht off).1 ha ho
 cases hr with
 | agg _ _ vs hs hr=>exact⟨vs,hu,hs,hr⟩
theorem beqC_split {a b:List AV} (n:Nat) (hl:a.length=b.length):beqC a b=(beqC (a.take n) (b.take n) && beqC (a.drop n) (b.drop n)):=by
 conv=>lhs;rw[← List.take_append_drop n a,← List.take_append_drop n b]
 grind[beqC_append]
theorem eqFs_sound {D d:Nat} (ih:∀ t,eqOk P d t=true→EqS P w Z γ D t) (zero:List AV) (xs ys:Array Value) (cs ds:List AV) (hx:CRel w Z γ cs xs) (hy:CRel w Z γ ds ys) (total:Nat)
  (h1:cs.length=total) (h2:ds.length=total) (hc:shL zero cs=true) (hd:shL zero ds=true):∀ (fs:List Field) (off:Nat),eqFs P d zero fs off total=true→off≤total →
  (Op.eqFields D xs ys fs).run P w=.ok (beqC (cs.drop off) (ds.drop off)) w
 | [],off,hk,ho=>by
  simp_all[eqFs,List.drop_of_length_le,Op.eqFields,beqC]
 | f::r,off,hk,ho=>by
  simp only[eqFs,Bool.and_eq_true]at hk
  obtain⟨⟨⟨hn,hof⟩,hok⟩,hm⟩:=hk
  cases hi:ttOf P f.type with
  | none=>grind
  | some i =>
   simp only[hi,Bool.and_eq_true,decide_eq_true_eq]at hm
   obtain⟨⟨hzw,hle⟩,hrest⟩:=hm
   have hof':f.offset=off:=by grind
   have hn':f.name≠ "_":=by grind
   obtain⟨x,y,p1,p2,p3⟩:=ih _ hok i hi xs ys cs ds hx hy off (by omega) (by omega) (shL_trans hzw (shL_take _ (shL_drop _ hc))) (shL_trans hzw (shL_take _ (shL_drop _ hd)))
   have hrec:=eqFs_sound ih zero xs ys cs ds hx hy total h1 h2 hc hd r (off+i.size) hrest (by omega)
   simp only[Op.eqFields,if_pos hn',hof',Sem.run_bind,p1,p2,p3,Result.andThen_ok]
   rw[beqC_split i.size (a:=cs.drop off) (by grind),List.drop_drop,List.drop_drop]
   show _=Result.ok (beqC (Win cs off i.size) (Win ds off i.size) && _) w
   split<;>simp_all
theorem eqItems_sound {D:Nat} {e:Nat} {ie:TI} (he:ttOf P e=some ie) (hc:P.cellsOf e=ie.size) (ih:EqS P w Z γ D e) (zero:List AV) (xs ys:Array Value) (cs ds:List AV) (hx:CRel w Z γ cs xs) (hy:CRel w Z γ ds ys)
  (n:Nat) (h1:cs.length=n * ie.size) (h2:ds.length=n * ie.size) (hzc:shL zero cs=true) (hzd:shL zero ds=true) (hall:∀ j,j<n→shL ie.zero ((zero.drop (j * ie.size)).take ie.size)=true):∀ (m k:Nat),k+m=n →
  (Op.eqItems D e (P.cellsOf e) xs ys (List.range' k m)).run P w=.ok (beqC (cs.drop (k * ie.size)) (ds.drop (k * ie.size))) w
 | 0,k,hk=>by
  simp_all[List.drop_of_length_le,Op.eqItems,beqC]
 | m+1,k,hk=>by
  have hle:k * ie.size+ie.size≤n * ie.size:=by
   grind[Nat.add_mul]
  have hz:=hall k (by omega)
  obtain⟨x,y,p1,p2,p3⟩:=ih ie he xs ys cs ds hx hy (k * ie.size) (by omega) (by omega) (shL_trans hz (shL_take _ (shL_drop _ hzc))) (shL_trans hz (shL_take _ (shL_drop _ hzd)))
  have hrec:=eqItems_sound he hc ih zero xs ys cs ds hx hy n h1 h2 hzc hzd hall m (k+1) (by omega)
  rw[List.range'_succ]
  simp only[Op.eqItems,hc,Sem.run_bind,p1,p2,p3,Result.andThen_ok]
  rw[hc]at hrec
  rw[beqC_split ie.size (a:=cs.drop (k * ie.size)) (by grind),List.drop_drop,List.drop_drop]
  have e1:k * ie.size+ie.size=(k+1) * ie.size:=by grind
  rw[e1]
  show _=Result.ok (beqC (Win cs (k * ie.size) ie.size) (Win ds (k * ie.size) ie.size) && _) w
  split<;>simp_all
theorem cellsOf_tt {t:Nat} {i:TI} (h:ttOf P t=some i):P.cellsOf t=i.size:=by
 grind[qbp,Program.cellsOf]
theorem eqOk_sound:∀ (d t:Nat),eqOk P d t=true→∀ D,EqS P w Z γ (D+d) t
 | 0,t,h,_=>by grind[eqOk]
 | d+1,t,h,D=>by
  have ih:∀ t,eqOk P d t=true→EqS P w Z γ (D+d) t:=fun t ht=>eqOk_sound d t ht D
  unfold eqOk at h
  cases ht:ttOf P t with
  | none=>grind
  | some i =>
   obtain⟨dd,f,z,hd,htd,hf,hs,_⟩:=qbp ht
   cases dd with
   | bool =>
    simp only[ht,hd,Bool.and_eq_true]at h
    refine eqScal ht (by rw[← htd];rfl) (by grind) h.2 fun a b ha hb x y hx hy=>?_
    cases hx <;> simp only[sh1,Bool.false_eq_true]at ha
    cases hy <;> simp only[sh1,Bool.false_eq_true]at hb
    exact run_equalIn_bool' w (D+d) t _ _ hd
   | int k =>
    simp only[ht,hd,Bool.and_eq_true]at h
    refine eqScal ht (by rw[← htd];rfl) (by grind) h.2 fun a b ha hb x y hx hy=>?_
    cases hx <;> simp only[sh1,Bool.false_eq_true,decide_eq_true_eq]at ha
    cases hy <;> simp only[sh1,Bool.false_eq_true,decide_eq_true_eq]at hb
    subst ha;subst hb
    exact run_equalIn_int w (D+d) t _ _ _ _ hd
   | string =>
    simp only[ht,hd,Bool.and_eq_true]at h
    refine eqScal ht (by rw[← htd];rfl) (by grind) h.2 fun a b ha hb x y hx hy=>?_
    cases hx <;> simp only[sh1,Bool.false_eq_true]at ha
    cases hy <;> simp only[sh1,Bool.false_eq_true]at hb
    rw[show D+(d+1)=D+d+1 from rfl,run_equalIn_string w (D+d) t _ _ hd,ba_toList,ba_toList]
    rfl
   | struct fs =>
    simp only[ht,hd,Bool.and_eq_true]at h
    obtain⟨⟨h1,h2⟩,h3⟩:=h
    intro i' hi' xs ys cs ds hx hy off g1 g2 gc gd
    rw[ht]at hi';injection hi' with hi';subst hi'
    have ha:i.td.agg=true:=by rw[← htd];rfl
    obtain⟨us,pu,ru⟩:=hx.win (P:=P) ht ha off g1
    obtain⟨vs,pv,rv⟩:=hy.win (P:=P) ht ha off g2
    refine⟨_,_,pu,pv,?_⟩
    have hf':P.fieldsOf t=fs:=by grind[Program.fieldsOf]
    rw[show D+(d+1)=D+d+1 from rfl,run_equalIn_struct w (D+d) t us vs (by grind) (by grind),hf']
    have:=eqFs_sound (D:=D+d) ih i.zero us vs _ _ ru rv i.size (Win_length g1) (Win_length g2) gc gd fs.toList 0 h3 (Nat.zero_le _)
    grind
   | array n e =>
    simp only[ht,hd,Bool.and_eq_true]at h
    obtain⟨⟨h1,h2⟩,h3⟩:=h
    cases he:ttOf P e with
    | none=>grind
    | some ie =>
     simp only[he,Bool.and_eq_true,List.all_eq_true,List.mem_range]at h3
     have hsz:i.size=n * ie.size:=by grind
     intro i' hi' xs ys cs ds hx hy off g1 g2 gc gd
     rw[ht]at hi';injection hi' with hi';subst hi'
     have ha:i.td.agg=true:=by rw[← htd];rfl
     obtain⟨us,pu,ru⟩:=hx.win (P:=P) ht ha off g1
     obtain⟨vs,pv,rv⟩:=hy.win (P:=P) ht ha off g2
     refine⟨_,_,pu,pv,?_⟩
     obtain⟨de,fe,ze,hde,htde,hfe,hse,_⟩:=qbp he
     rw[show D+(d+1)=D+d+1 from rfl,run_equalIn_array w (D+d) us vs hd hfe]
     have:=eqItems_sound (D:=D+d) he (cellsOf_tt he) (ih e h1) i.zero us vs _ _ ru rv n (by grind[Win_length]) (by grind[Win_length]) gc gd h3.2 n 0 (by omega)
     grind[List.range_eq_range']
   | _=>grind
def eqTy (P:Program) (t:Nat):Bool:=eqOk P 8 t && !P.eqGuardType P.depth t
theorem eq_agg {t:Nat} {i:TI} (hk:eqTy P t=true) (ht:ttOf P t=some i) (hagg:i.td.agg=true) {cs ds:List AV} {xs ys:Array Value} (hx:CRel w Z γ cs xs) (hy:CRel w Z γ ds ys)
  (hc:shL i.zero cs=true) (hd:shL i.zero ds=true) (hs:i.zero.length=i.size):
  (Op.equalIn 10000 t (.agg xs) (.agg ys)).run P w=.ok (beqC cs ds) w:=by
 simp only[eqTy,Bool.and_eq_true]at hk
 have hlc:cs.length=i.size:=by grind[shL_length]
 have hld:ds.length=i.size:=by grind[shL_length]
 have hE:=eqOk_sound (w:=w) (Z:=Z) (γ:=γ) 8 t hk.1 9992 i ht xs ys cs ds hx hy 0 (by omega) (by omega)
  (by grind[Win]) (by grind[Win])
 obtain⟨x,y,p1,p2,p3⟩:=hE
 have e1:xs.extract 0 (0+i.size)=xs:=by
  have:=hx.1
  grind
 have e2:ys.extract 0 (0+i.size)=ys:=by
  have:=hy.1
  grind
 grind[Go.part,Sem.run_bind,run_isAgg,Result.andThen_ok,qas,Sem.run_pure,Win]
end
end Go.Av

end
section
namespace Go.Av
open Go.RowKit
section
variable {P:Program} {w:World} {Z:Addr→Prop} {γ:Gm} {h:Hp}
theorem foldl_set_list (off:Nat):∀ (vs:List Value) (k:Nat) (arr:Array Value),
  ((vs.zipIdx k).foldl (fun(cs:Array Value) (x:Value×Nat)=>cs.setIfInBounds (off+x.2) x.1) arr).size=arr.size ∧
  ∀ j,((vs.zipIdx k).foldl (fun(cs:Array Value) (x:Value×Nat)=>cs.setIfInBounds (off+x.2) x.1) arr)[j]? =
   if off+k≤j∧j<off+k+vs.length∧j<arr.size then vs[j-(off+k)]? else arr[j]?
 | [],k,arr=>by
  (simp;omega)
 | v::r,k,arr=>by
  rw[List.zipIdx_cons,List.foldl_cons]
  obtain⟨h1,h2⟩:=foldl_set_list off r (k+1) (arr.setIfInBounds (off+k) v)
  grind
theorem foldl_set_array (off:Nat) (vs arr:Array Value) :
  (vs.zipIdx.foldl (fun cs (c,j)=>cs.setIfInBounds (off+j) c) arr)=((vs.toList.zipIdx 0).foldl (fun(cs:Array Value) (x:Value×Nat)=>cs.setIfInBounds (off+x.2) x.1) arr):=by
 rw[← Array.foldl_toList]
 simp
def splice (cs:List AV) (off:Nat) (c:List AV):List AV:=cs.take off++c++cs.drop (off+c.length)
theorem CRel.splice {cs c:List AV} {arr vs:Array Value} (h1:CRel w Z γ cs arr) (h2:CRel w Z γ c vs) {off:Nat} (ho:off+c.length≤cs.length) :
  CRel w Z γ (Av.splice cs off c) (vs.zipIdx.foldl (fun cs (c,j)=>cs.setIfInBounds (off+j) c) arr):=by
 rw[foldl_set_array]
 obtain⟨g1,g2⟩:=foldl_set_list off vs.toList 0 arr
 have hvs:vs.toList.length=c.length:=by exact h2.1
 have hl:(Av.splice cs off c).length=cs.length:=by grind[Av.splice]
 refine⟨by rw[g1,h1.1,hl],fun j hj=>?_⟩
 rw[hl]at hj
 have hja:j<arr.size:=by rw[h1.1];omega
 have hval:∀ (o:Option Value) (x:Value),o=some x→(((vs.toList.zipIdx 0).foldl (fun(cs:Array Value) (x:Value×Nat)=>cs.setIfInBounds (off+x.2) x.1) arr)[j]?=o) →
   (((vs.toList.zipIdx 0).foldl (fun(cs:Array Value) (x:Value×Nat)=>cs.setIfInBounds (off+x.2) x.1) arr)).getD j undef=x:=fun o x ho hx=>by
  simp_all
 have hg:=g2 j
 by_cases hin:off≤j∧j<off+c.length
 ·rw[if_pos (by omega)]at hg
  have hlt:j-off<vs.size:=by grind
  have:(Av.splice cs off c).getD j .top=c.getD (j-off) .top:=by
   grind[Av.splice]
  rw[this,hval _ (vs.getD (j-off) undef) ?_ hg]
  ·exact h2.2 _ (by omega)
  simp_all
 ·rw[if_neg (by omega)]at hg
  have:(Av.splice cs off c).getD j .top=cs.getD j .top:=by
   grind[Av.splice]
  rw[this,hval _ (arr.getD j undef) ?_ hg]
  ·exact h1.2 _ hj
  simp_all
def fillA (place:Nat→Option (Nat×Nat)) (cells:List AV):List (Nat×AV)→Option (Prop×List AV)
 | []=>some (True,cells)
 | (i,v)::rest=>match place i,cellsO v with
  | some (off,size),some c=>match fillA place (splice cells off c) rest with
   | some (p,r)=>some ((c.length=size∧off+size≤cells.length)∧p,r)
   | none=>none
  | _,_=>none
theorem fillA_sound {placeA place:Nat→Option (Nat×Nat)} (hpl:∀ i x,placeA i=some x→place i=some x):∀ (parts:List (Nat×AV)) (vparts:List (Nat×Value)) (cells:List AV) (arr:Array Value) (p:Prop) (r:List AV),
  parts.length=vparts.length→(∀ (j:Nat) (a:Nat×AV) (b:Nat×Value),parts[j]?=some a→vparts[j]?=some b→a.1=b.1∧AVRel w Z γ a.2 b.2)→CRel w Z γ cells arr→fillA placeA cells parts=some (p,r)→p →
  ∃ res,Instr.fill place arr vparts=some res∧CRel w Z γ r res
 | [],[],cells,arr,p,r,_,_,hc,hf,hp=>by
  obtain⟨_,rfl⟩:=hf
  exact⟨arr,rfl,hc⟩
 | (i,a)::rest,(i',v)::vrest,cells,arr,p,r,hl,hr,hc,hf,hp=>by
  obtain⟨e1,e2⟩:=hr 0 _ _ rfl rfl
  subst e1
  simp only[fillA]at hf
  cases hpi:placeA i with
  | none=>grind
  | some os =>
   obtain⟨off,size⟩:=os
   cases hcv:cellsO a with
   | none=>grind
   | some c =>
    simp only[hpi,hcv]at hf
    cases hrec:fillA placeA (splice cells off c) rest with
    | none=>grind
    | some pr =>
     obtain⟨p',r'⟩:=pr
     simp only[hrec,Option.some.injEq,Prod.mk.injEq]at hf
     obtain⟨rfl,rfl⟩:=hf
     obtain⟨⟨hp1,hp2⟩,hp3⟩:=hp
     have hcv':=e2.notAgg hcv
     have hsp:=hc.splice hcv' (off:=off) (by omega)
     obtain⟨res,h1,h2⟩:=fillA_sound hpl rest vrest _ _ p' r' (by grind) (fun j a b ha hb=>hr (j+1) a b (by grind) (by grind)) hsp hrec hp3
     refine⟨res,?_,h2⟩
     have h3:v.cells.size=size:=by rw[hcv'.1,hp1]
     have h4:arr.size=cells.length:=hc.1
     grind[Instr.fill]
 | [],_::_,_,_,_,_,hl,_,_,_,_=>by grind
 | _::_,[],_,_,_,_,hl,_,_,_,_=>by grind
theorem zero_crel {zero:List AV} {z:Value} (hz:z.cells.toList.map av1=zero):CRel w Z γ zero z.cells:=by
 subst hz
 refine⟨by simp,fun j hj=>?_⟩
 have hj':j<z.cells.size:=by grind
 have:(z.cells.toList.map av1).getD j .top=av1 (z.cells.getD j undef):=by simp_all
 grind[av1_rel]
def placeSt (P:Program) (fs:List (Nat×Nat)) (i:Nat):Option (Nat×Nat) :=
 match fs[i]? with
 | some (o,ft)=>match ttOf P ft with
  | some ti=>some (o,ti.size)
  | none=>none
 | none=>none
def placeAr (P:Program) (e:Nat) (i:Nat):Option (Nat×Nat) :=
 match ttOf P e with
 | some ie=>some (i * ie.size,ie.size)
 | none=>none
def evBuild (P:Program) (t:Nat) (parts:List (Nat×AV)):Option (Prop×AV) :=
 match ttOf P t with
 | some ⟨.srt fs,_,_,zero⟩=>match fillA (placeSt P fs) zero parts with
  | some (p,cs)=>some ((∀ x,x∈fs→(ttOf P x.2).isSome=true)∧p,.agg cs)
  | none=>none
 | some ⟨.arr _ e,_,_,zero⟩=>match fillA (placeAr P e) zero parts with
  | some (p,cs)=>some ((ttOf P e).isSome=true∧p,.agg cs)
  | none=>none
 | _=>none
theorem mapM_sizes {fs:List Field} {w:World} (hf:∀ f∈fs,∃ i,P.info? f.type=some i) :
  (fs.mapM fun f=>(do pure (f.offset,← sizeOf f.type):Sem (Nat×Nat))).run P w=.ok (fs.map fun f=>(f.offset,P.cellsOf f.type)) w:=by
 induction fs with
 | nil=>simp
 | cons f r ih =>
  obtain⟨i,hi⟩:=hf f (by simp)
  simp_all[Program.cellsOf,run_sizeOf]
theorem evBuild_sound {t:Nat} {parts:List (Nat×AV)} {vparts:Array (Nat×Value)} (hl:parts.length=vparts.size)
  (hr:∀ (j:Nat) (a:Nat×AV) (b:Nat×Value),parts[j]?=some a→vparts[j]?=some b→a.1=b.1∧AVRel w Z γ a.2 b.2) {p:Prop} {v:AV} (he:evBuild P t parts=some (p,v)) (hp:p) :
  ∃ u,(Instr.build t vparts).run P w=.ok u w∧AVRel w Z γ v u:=by
 unfold evBuild at he
 cases hi:ttOf P t with
 | none=>grind
 | some i =>
  obtain⟨td,size,by',zero⟩:=i
  obtain⟨d,f,z,hd,htd,hf,hs,_,hz,hzz⟩:=qbp hi
  cases td with
  | srt fs =>
   simp only[hi]at he
   split at he
   ·rename_i p' cs hfa
    obtain⟨rfl,rfl⟩:=he
    obtain⟨gs,hg1,hg2⟩:=tt_srt hi rfl
    have hmap:=mapM_sizes (P:=P) (w:=w) (fs:=gs.toList) (fun f hf=>by
     have:=hp.1 (f.offset,f.type) (by grind)
     grind[Option.isSome_iff_exists,qbp])
    have hmap':(gs.mapM fun f=>(do pure (f.offset,← sizeOf f.type):Sem (Nat×Nat))).run P w=.ok ((gs.toList.map fun f=>(f.offset,P.cellsOf f.type)).toArray) w:=by
     simp_all[Array.mapM_eq_mapM_toList]
    obtain⟨res,h1,h2⟩:=fillA_sound (placeA:=placeSt P fs) (place:=fun i=>((gs.toList.map fun f=>(f.offset,P.cellsOf f.type)).toArray)[i]?) (fun i x hx=>by
      unfold placeSt at hx
      grind[cellsOf_tt]) parts vparts.toList zero z.cells _ cs (by omega) (fun j a b ha hb=>hr j a b ha (by grind)) (zero_crel hzz) hfa hp.2
    refine⟨.agg res,?_,.agg _ _ _ h2.1 h2.2⟩
    simp only[Instr.build,Sem.run_bind,run_zero hf hz,Result.andThen_ok,qaa hg1,hmap',h1,Sem.run_pure]
   grind
  | arr n e =>
   simp only[hi]at he
   split at he
   ·rename_i p' cs hfa
    obtain⟨rfl,rfl⟩:=he
    have hu:=tt_arr hi rfl
    cases hie:ttOf P e with
    | none=>grind
    | some ie =>
     obtain⟨res,h1,h2⟩:=fillA_sound (placeA:=placeAr P e) (place:=fun i=>some (i * ie.size,ie.size)) (fun i x hx=>by
       grind[placeAr]) parts vparts.toList zero z.cells _ cs (by omega) (fun j a b ha hb=>hr j a b ha (by grind)) (zero_crel hzz) hfa hp.2
     refine⟨.agg res,?_,.agg _ _ _ h2.1 h2.2⟩
     simp only[Instr.build,Sem.run_bind,run_zero hf hz,Result.andThen_ok,qaa hu,qas hie,h1,Sem.run_pure]
   grind
  | _=>grind
end
end Go.Av

end
